/-
  The contract of xorval.Encode. (Printed by mk.py.)
-/
import Derived.Test.YtboecnakndpgfaaXorEn
import Derived.WalkMore
namespace Go.Proofs.Ytboecnakndpgfaa.X
open Go.RowKit
set_option linter.unusedVariables false
set_option linter.unusedSimpArgs false
def XEncPost (w : World) (bs : List Nat) (e : Ending) (w' : World) : Prop :=
  ∃ A c, e = .returned (.tuple #[.slice A bs.length c, .int .i64 0]) ∧ w'.ownsRow w.heap.size 5 1 (.slice A bs.length c) bs.length (bs.map byteV) ∧ Keeps (fun _ => False) w w'
set_option maxRecDepth 100000 in
set_option maxHeartbeats 1600000 in
theorem xencode_any (w : World) (A : Option Addr) (len c : Nat) (D : Nat → Prop) (f : Nat → Nat) (hsl : Sl w D A len (fun j => .int .u64 (f j : Nat))) (hf : ∀ j, f j < 18446744073709551616) (hlen : len ≤ 4096) :
    Calls Try.prog 9 #[.slice A len c] w (XEncPost w (pack (xencTo f len))) := by
  have HS := Lib.hid (And.intro hsl hf)
  clear hsl hf
  have d0 : decide ((4096 : Int) < len) = false := by simp; omega
  go_enter Try.func9, Try.ntmps9
  go_wp2_with fail
  go_step3
  go_wp2_with fail
  refine (newWriter_any _).mono ?_
  rintro e w1 ⟨rfl, hx1, hk1⟩
  obtain ⟨x, hx⟩ : ∃ x, x = w.heap.size := ⟨_, rfl⟩
  rw [← hx] at hx1
  rw [← hx]
  have H1 := Lib.hid (And.intro hx1 (And.intro hk1 hx))
  clear hx1 hk1 hx d0
  go_wp2_with fail
  refine (none_any _).mono ?_
  rintro e w2 ⟨rfl, hb2⟩
  obtain ⟨y, hy⟩ : ∃ y, y = w2.heap.size := ⟨_, rfl⟩
  have H2 := Lib.hid (And.intro hb2 hy)
  clear hb2 hy
  go_wp2_with fail
  rw [← H2.out.2]
  go_step3
  go_wp2_with fail
  go_loopw [17] (fun i wr => ∃ (k : Nat) (g : Option Nat), k ≤ len ∧ i = .int .i64 k ∧ ES w x y g (xencTo f k) (xwin f k) wr)
    (fun i _ => len - (intOf i).toNat)
  case atStart =>
    obtain ⟨hx1, hk1, hx⟩ := H1.out
    obtain ⟨hb2, hy⟩ := H2.out
    have hk2 : Keeps (fun _ => False) w1 (w2.alloc (.cells #[.int .i64 (-1), .int .i64 (-1)] 52)) := (Keeps.of_below hb2).alloc _
    refine ⟨0, none, Nat.zero_le _, rfl, hx1.keeps hk2 (fun h => h) (fun _ _ h => h), ?_, hk1.trans' hk2, (fun _ h => by cases h), by omega, ?_⟩
    · rw [hy]; exact Blk.fresh _ _ _
    · rw [hy]; exact Nat.le_trans hk1.size hb2.size
  case round =>
    obtain ⟨k, g, hk, rfl, hes⟩ := hrel
    by_cases hlt : k < len
    · obtain ⟨b, off, hA, hD, hcell⟩ := (HS.out.1.keep (w' := wr) (fun q _ hq => hes.keeps.block q hq (fun h => h))) (by omega)
      have ck : wr.cell? ⟨b, off + k, none⟩ = some (.int .u64 (f k : Nat)) := hcell k hlt
      have hcp : 1 ≤ k → wr.cell? ⟨b, off + (k - 1), none⟩ = some (.int .u64 (f (k - 1) : Nat)) := fun h => hcell (k - 1) (by omega)
      subst hA
      have HE := Lib.hid hes
      clear hes hcell
      have hlk := xencTo_len f k
      rcases Nat.eq_zero_or_pos k with hk0 | hk0
      · subst hk0
        clear hcp hlk
        have hu := HS.out.2 0
        obtain ⟨u, hu'⟩ : ∃ u, u = f 0 := ⟨_, rfl⟩
        rw [← hu'] at ck hu
        have HU := Lib.hid (And.intro hu hu')
        clear hu hu'
        rw [show ((0 : Nat) : Int) = 0 from rfl]
        rw [Nat.add_zero] at ck
        go_wp2_with fail
        refine (put_es HE.out (u : Nat) 64 (by omega) (by have := HU.out.1; omega) (by omega) (by omega) (by simp [xencTo])).mono ?_
        rintro e w3 ⟨rfl, g3, hes3⟩
        have H3 := Lib.hid hes3
        clear hes3 ck
        go_wp2_with fail
        go_roundw
        case rel =>
          refine ⟨1, g3, by omega, rfl, ?_⟩
          have := H3.out
          rw [show ((u : Int)).toNat = u from rfl, show (64 : Int).toNat = 64 from rfl, HU.out.2] at this
          exact this
        case measure => simp [intOf]; omega
      · obtain ⟨j, rfl⟩ : ∃ j, k = j + 1 := ⟨k - 1, by omega⟩
        have cp := hcp (by omega)
        rw [show j + 1 - 1 = j by omega] at cp
        obtain ⟨a, ha⟩ : ∃ a, a = f (j + 1) := ⟨_, rfl⟩
        obtain ⟨p, hp⟩ : ∃ p, p = f j := ⟨_, rfl⟩
        obtain ⟨q, hq⟩ : ∃ q, q = a ^^^ p := ⟨_, rfl⟩
        have r1 := HS.out.2 (j + 1)
        have r2 := HS.out.2 j
        rw [← ha] at ck r1
        rw [← hp] at cp r2
        have hqx : bits .xor .u64 (a : Int) (p : Int) = (q : Int) := by rw [u64_xor_nat _ _ r1 r2, hq]
        have hql : q < 18446744073709551616 := by rw [hq]; exact xor_lt r1 r2
        obtain ⟨L, hL⟩ : ∃ L, L = xencTo f (j + 1) := ⟨_, rfl⟩
        obtain ⟨o, ho⟩ : ∃ o, o = xwin f (j + 1) := ⟨_, rfl⟩
        have hok : WinOk o := by rw [ho]; exact xwin_ok HS.out.2 _
        have hes := HE.out
        rw [← hL, ← ho] at hes
        rw [← hL] at hlk
        have hfin : ∀ k', k' = j + 2 → xencTo f k' = L ++ xbits o q ∧ xwin f k' = nextW o q := by
          rintro k' rfl; rw [hL, ho, hq, ha, hp]; exact ⟨rfl, rfl⟩
        clear HE
        have HE := Lib.hid (And.intro hes (And.intro hql (And.intro hok hfin)))
        clear hes hql hok hfin hL ho hq ha hp r1 r2 hcp hk0
        rw [show ((j + 1 : Nat) : Int) = (j : Int) + 1 from rfl]
        by_cases h0 : q = 0
        · subst h0
          rw [show ((0 : Nat) : Int) = 0 from rfl] at hqx
          go_wp2_with fail
          refine (put_es HE.out.1 0 1 (by omega) (by omega) (by omega) (by omega) (by omega)).mono ?_
          rintro e w3 ⟨rfl, g3, hes3⟩
          have H3 := Lib.hid hes3
          clear hes3 ck cp hqx
          go_wp2_with fail
          go_roundw
          case rel =>
            obtain ⟨e1, e2⟩ := HE.out.2.2.2 (j + 2) rfl
            refine ⟨j + 2, g3, by omega, by go_num, ?_⟩
            rw [e1, e2]
            exact H3.out
          case measure => simp [intOf]; omega
        · have dq : ((q : Int) == 0) = false := by simp [h0]
          have HQ := Lib.hid h0
          clear h0
          go_wp2_with fail
          refine (of_any q HE.out.2.1 _).mono ?_
          rintro e w3 ⟨rfl, hb3⟩
          obtain ⟨l, t, hc⟩ := winC_two o
          have hes3 := HE.out.1.below (hb3.alloc hb3.size (.cells #[.int .i64 (lead q : Nat), .int .i64 (trail q : Nat)] 52))
          have hbz := Blk.fresh w3 52 #[.int .i64 (lead q : Nat), .int .i64 (trail q : Nat)]
          have hw3 := hes3.win
          rw [hc] at hw3
          have p0 := hw3.cell 0
          have p1 := hw3.cell 1
          simp at p0 p1
          have H3 := Lib.hid (And.intro hes3 (And.intro hbz hc))
          clear hes3 hbz hw3 hc hb3 ck cp hqx dq
          go_wp2_with fail
          clear p0 p1
          refine (has_es o q l t H3.out.2.2 _).mono ?_
          rintro e w4 ⟨rfl, hb4⟩
          have hes4 := H3.out.1.below hb4
          have hbz4 := H3.out.2.1.below hb4 H3.out.2.1.lt
          obtain ⟨z, hz⟩ : ∃ z, z = w3.heap.size := ⟨_, rfl⟩
          rw [← hz] at hbz4
          rw [← hz]
          have H4 := Lib.hid (And.intro hes4 hbz4)
          clear hes4 hbz4 hb4 H3 hz
          cases hfit : fits o q
          · have HF := Lib.hid hfit
            clear hfit
            have hwl := window_le (u := q) (by have := HQ.out; omega) HE.out.2.1
            have hb := H4.out.1.win
            obtain ⟨l', t', hc'⟩ := winC_two o
            rw [hc'] at hb
            have f0 := hb.frozen
            have y0 := hb.cell 0
            have y1 := hb.cell 1
            have z0 := H4.out.2.cell 0
            have z1 := H4.out.2.cell 1
            simp at y0 y1 z0 z1
            obtain ⟨m, hm⟩ : ∃ m, m = lead q := ⟨_, rfl⟩
            obtain ⟨n, hn⟩ : ∃ n, n = trail q := ⟨_, rfl⟩
            have hset := H4.out.1.set (lead q) (trail q)
            rw [← hm] at z0
            rw [← hn] at z1
            rw [← hm, ← hn] at hwl hset
            rw [← hm, ← hn]
            have HM := Lib.hid (And.intro hm (And.intro hn hset))
            clear hm hn hset hb hc'
            go_wp2_with fail
            refine (put_es HM.out.2.2 3 2 (by omega) (by omega) (by omega) (by omega) (by omega)).mono ?_
            rintro e w5 ⟨rfl, g5, hes5⟩
            have H5 := Lib.hid hes5
            have y0 := es_c0 hes5
            have y1 := es_c1 hes5
            clear hes5 f0 z0 z1
            have ew : IntKind.u64.wrap (m : Int) = (m : Int) := by rw [IntKind.wrap_u64]; omega
            go_wp2_with fail
            refine (put_es H5.out (m : Nat) 6 (by omega) (by omega) (by omega) (by omega) (by simp only [List.length_append, bitsTo_length]; omega)).mono ?_
            rintro e w6 ⟨rfl, g6, hes6⟩
            clear y0 y1 ew
            have y0 := es_c0 hes6
            have y1 := es_c1 hes6
            have H6 := Lib.hid hes6
            clear hes6
            go_wp2_with fail
            refine (inside_any m n (by omega) _).mono ?_
            rintro e w7 ⟨rfl, hb7⟩
            have hes7 := H6.out.below hb7
            have H7 := Lib.hid hes7
            clear hb7 hes7 y0 y1
            obtain ⟨s, hs⟩ : ∃ s, s = 64 - m - n := ⟨_, rfl⟩
            rw [← hs]
            have hs1 : 1 ≤ s := by omega
            have hs64 : s ≤ 64 := by omega
            have HSS := Lib.hid hs
            clear hs
            have ew : IntKind.u64.wrap ((s : Int) - 1) = ((s - 1 : Nat) : Int) := by rw [IntKind.wrap_u64]; omega
            go_wp2_with fail
            refine (put_es H7.out ((s - 1 : Nat) : Int) 6 (by omega) (by omega) (by omega) (by omega) (by simp only [List.length_append, bitsTo_length]; omega)).mono ?_
            rintro e W8 ⟨rfl, g8, hes8⟩
            have HY := Lib.hid hes8
            clear hes8 ew
            go_wp2_with fail
            obtain ⟨v, hv⟩ : ∃ v, v = q / 2 ^ n := ⟨_, rfl⟩
            have hvi : (q : Int) / 2 ^ n = (v : Int) := by rw [hv, div_cast]
            have hvl : v < 18446744073709551616 := by rw [hv]; exact Nat.lt_of_le_of_lt (Nat.div_le_self _ _) HE.out.2.1
            have HV := Lib.hid (And.intro hv hvl)
            clear hv hvl
            have hn63 : n ≤ 63 := by omega
            have hn64 : n < 64 := by omega
            have hS : (fun w' : World => w'.cell? ⟨y, 0, none⟩ = some (.int .i64 (m : Nat)) ∧ w'.cell? ⟨y, 1, none⟩ = some (.int .i64 (n : Nat))) (W8.drew) := ⟨es_c0 HY.out.drew, es_c1 HY.out.drew⟩
            refine reg_start (fun w' : World => w'.cell? ⟨y, 0, none⟩ = some (.int .i64 (m : Nat)) ∧ w'.cell? ⟨y, 1, none⟩ = some (.int .i64 (n : Nat))) (by kernel_rfl) hS ?_
            refine reg_take (i := 0) (v := ?_) rfl (by kernel_rfl) (by kernel_rfl) (by kernel_rfl) (fun _ _ _ h => h) (Or.inl ⟨by kernel_rfl, ?_⟩) hS ?_
            rotate_left
            · (intro w' hSw; go_simp <;> with_reducible rfl)
            try simp only [List.getElem_toArray, List.getElem_cons_succ, List.getElem_cons_zero, Act.put, List.setIfInBounds_toArray, List.set_cons_zero, List.set_cons_succ]
            refine reg_take (i := 1) (v := ?_) rfl (by kernel_rfl) (by kernel_rfl) (by kernel_rfl) (fun _ _ _ h => h) (Or.inl ⟨by kernel_rfl, ?_⟩) hS ?_
            rotate_left
            · (intro w' hSw; go_simp <;> with_reducible rfl)
            try simp only [List.getElem_toArray, List.getElem_cons_succ, List.getElem_cons_zero, Act.put, List.setIfInBounds_toArray, List.set_cons_zero, List.set_cons_succ]
            refine reg_take (i := 2) (v := ?_) rfl (by kernel_rfl) (by kernel_rfl) (by kernel_rfl) (fun _ _ _ h => h) (Or.inl ⟨by kernel_rfl, ?_⟩) hS ?_
            rotate_left
            · (intro w' hSw; obtain ⟨p0, p1⟩ := hSw; go_simp <;> with_reducible rfl)
            try simp only [List.getElem_toArray, List.getElem_cons_succ, List.getElem_cons_zero, Act.put, List.setIfInBounds_toArray, List.set_cons_zero, List.set_cons_succ]
            refine reg_take (i := 3) (v := ?_) rfl (by kernel_rfl) (by kernel_rfl) (by kernel_rfl) (fun _ _ _ h => h) (Or.inl ⟨by kernel_rfl, ?_⟩) hS ?_
            rotate_left
            · (intro w' hSw; obtain ⟨p0, p1⟩ := hSw; go_simp <;> with_reducible rfl)
            try simp only [List.getElem_toArray, List.getElem_cons_succ, List.getElem_cons_zero, Act.put, List.setIfInBounds_toArray, List.set_cons_zero, List.set_cons_succ]
            refine reg_take (i := 4) (v := ?_) rfl (by kernel_rfl) (by kernel_rfl) (by kernel_rfl) (fun _ _ _ h => h) (Or.inl ⟨by kernel_rfl, ?_⟩) hS ?_
            rotate_left
            · (intro w' hSw; obtain ⟨p0, p1⟩ := hSw; go_simp <;> with_reducible rfl)
            try simp only [List.getElem_toArray, List.getElem_cons_succ, List.getElem_cons_zero, Act.put, List.setIfInBounds_toArray, List.set_cons_zero, List.set_cons_succ]
            refine reg_take (i := 5) (v := ?_) rfl (by kernel_rfl) (by kernel_rfl) (by kernel_rfl) (fun _ _ _ h => h) (Or.inl ⟨by kernel_rfl, ?_⟩) hS ?_
            rotate_left
            · (intro w' hSw; obtain ⟨p0, p1⟩ := hSw; go_simp <;> with_reducible rfl)
            try simp only [List.getElem_toArray, List.getElem_cons_succ, List.getElem_cons_zero, Act.put, List.setIfInBounds_toArray, List.set_cons_zero, List.set_cons_succ]
            refine reg_call (i := 6) rfl (by kernel_rfl) (fun K hK => ?_)
            have HK := Lib.hid hK
            clear hK
            go_simp
            refine (inside_any m n (by omega) W8.drew).mono ?_
            rintro e w9 ⟨rfl, hb9⟩
            have hes9 := HY.out.drew.below hb9
            have H9 := Lib.hid hes9
            clear hb9 hes9
            go_wp2_with fail
            refine HK.out.to (fun w' : World => w'.cell? ⟨y, 0, none⟩ = some (.int .i64 (m : Nat)) ∧ w'.cell? ⟨y, 1, none⟩ = some (.int .i64 (n : Nat))) (fun _ h => h) (⟨es_c0 H9.out, es_c1 H9.out⟩) ?_
            clear HK hS
            have hS : (fun w' : World => w'.cell? ⟨y, 0, none⟩ = some (.int .i64 (m : Nat)) ∧ w'.cell? ⟨y, 1, none⟩ = some (.int .i64 (n : Nat))) (w9) := ⟨es_c0 H9.out, es_c1 H9.out⟩
            try simp only [List.getElem_toArray, List.getElem_cons_succ, List.getElem_cons_zero, Act.put, List.setIfInBounds_toArray, List.set_cons_zero, List.set_cons_succ]
            refine reg_call (i := 7) rfl (by kernel_rfl) (fun K hK => ?_)
            have HK := Lib.hid hK
            clear hK
            go_simp
            refine (put_es H9.out (v : Nat) ((64 - m - n : Nat) : Int) (by omega) (by have := HV.out.2; omega) (by omega) (by omega) (by simp only [List.length_append, bitsTo_length]; omega)).mono ?_
            rintro e w10 ⟨rfl, g10, hes10⟩
            have H10 := Lib.hid hes10
            clear hes10
            go_wp2_with fail
            refine HK.out.to (fun w' : World => w'.cell? ⟨y, 0, none⟩ = some (.int .i64 (m : Nat)) ∧ w'.cell? ⟨y, 1, none⟩ = some (.int .i64 (n : Nat))) (fun _ h => h) (⟨es_c0 H10.out, es_c1 H10.out⟩) ?_
            clear HK hS
            have hS : (fun w' : World => w'.cell? ⟨y, 0, none⟩ = some (.int .i64 (m : Nat)) ∧ w'.cell? ⟨y, 1, none⟩ = some (.int .i64 (n : Nat))) (w10) := ⟨es_c0 H10.out, es_c1 H10.out⟩
            try simp only [List.getElem_toArray, List.getElem_cons_succ, List.getElem_cons_zero, Act.put, List.setIfInBounds_toArray, List.set_cons_zero, List.set_cons_succ]
            refine wpAnyH_done (by kernel_rfl) ?_ _
            try simp only [List.getElem_toArray, List.getElem_cons_succ, List.getElem_cons_zero]
            try simp only [List.getElem_toArray, List.getElem_cons_succ, List.getElem_cons_zero, Act.put, List.setIfInBounds_toArray, List.set_cons_zero, List.set_cons_succ]
            go_wp2_with fail
            go_roundw
            case rel =>
              obtain ⟨e1, e2⟩ := HE.out.2.2.2 (j + 2) rfl
              obtain ⟨e3, e4⟩ := xbits_new HQ.out HF.out
              refine ⟨j + 2, g10, by omega, by go_num, ?_⟩
              rw [e1, e2, e3, e4, ← List.append_assoc, ← List.append_assoc, ← List.append_assoc, ← HM.out.1, ← HM.out.2.1]
              have := H10.out
              rw [HSS.out, HV.out.1] at this
              exact this
            case measure => simp [intOf]; omega
          · obtain ⟨m, n, rfl⟩ : ∃ m n, o = some (m, n) := by
              cases o with
              | none => simp [fits] at hfit
              | some p => exact ⟨p.1, p.2, rfl⟩
            have HF := Lib.hid hfit
            clear hfit
            have hwl : m + n ≤ 63 := HE.out.2.2.1 (m, n) rfl
            go_wp2_with fail
            refine (put_es H4.out.1 2 2 (by omega) (by omega) (by omega) (by omega) (by omega)).mono ?_
            rintro e W8 ⟨rfl, g8, hes8⟩
            have HY := Lib.hid hes8
            clear hes8
            go_wp2_with fail
            obtain ⟨v, hv⟩ : ∃ v, v = q / 2 ^ n := ⟨_, rfl⟩
            have hvi : (q : Int) / 2 ^ n = (v : Int) := by rw [hv, div_cast]
            have hvl : v < 18446744073709551616 := by rw [hv]; exact Nat.lt_of_le_of_lt (Nat.div_le_self _ _) HE.out.2.1
            have HV := Lib.hid (And.intro hv hvl)
            clear hv hvl
            have hn63 : n ≤ 63 := by omega
            have hn64 : n < 64 := by omega
            have hS : (fun w' : World => w'.cell? ⟨y, 0, none⟩ = some (.int .i64 (m : Nat)) ∧ w'.cell? ⟨y, 1, none⟩ = some (.int .i64 (n : Nat))) (W8.drew) := ⟨es_c0 HY.out.drew, es_c1 HY.out.drew⟩
            refine reg_start (fun w' : World => w'.cell? ⟨y, 0, none⟩ = some (.int .i64 (m : Nat)) ∧ w'.cell? ⟨y, 1, none⟩ = some (.int .i64 (n : Nat))) (by kernel_rfl) hS ?_
            refine reg_take (i := 0) (v := ?_) rfl (by kernel_rfl) (by kernel_rfl) (by kernel_rfl) (fun _ _ _ h => h) (Or.inl ⟨by kernel_rfl, ?_⟩) hS ?_
            rotate_left
            · (intro w' hSw; go_simp <;> with_reducible rfl)
            try simp only [List.getElem_toArray, List.getElem_cons_succ, List.getElem_cons_zero, Act.put, List.setIfInBounds_toArray, List.set_cons_zero, List.set_cons_succ]
            refine reg_take (i := 1) (v := ?_) rfl (by kernel_rfl) (by kernel_rfl) (by kernel_rfl) (fun _ _ _ h => h) (Or.inl ⟨by kernel_rfl, ?_⟩) hS ?_
            rotate_left
            · (intro w' hSw; go_simp <;> with_reducible rfl)
            try simp only [List.getElem_toArray, List.getElem_cons_succ, List.getElem_cons_zero, Act.put, List.setIfInBounds_toArray, List.set_cons_zero, List.set_cons_succ]
            refine reg_take (i := 2) (v := ?_) rfl (by kernel_rfl) (by kernel_rfl) (by kernel_rfl) (fun _ _ _ h => h) (Or.inl ⟨by kernel_rfl, ?_⟩) hS ?_
            rotate_left
            · (intro w' hSw; obtain ⟨p0, p1⟩ := hSw; go_simp <;> with_reducible rfl)
            try simp only [List.getElem_toArray, List.getElem_cons_succ, List.getElem_cons_zero, Act.put, List.setIfInBounds_toArray, List.set_cons_zero, List.set_cons_succ]
            refine reg_take (i := 3) (v := ?_) rfl (by kernel_rfl) (by kernel_rfl) (by kernel_rfl) (fun _ _ _ h => h) (Or.inl ⟨by kernel_rfl, ?_⟩) hS ?_
            rotate_left
            · (intro w' hSw; obtain ⟨p0, p1⟩ := hSw; go_simp <;> with_reducible rfl)
            try simp only [List.getElem_toArray, List.getElem_cons_succ, List.getElem_cons_zero, Act.put, List.setIfInBounds_toArray, List.set_cons_zero, List.set_cons_succ]
            refine reg_take (i := 4) (v := ?_) rfl (by kernel_rfl) (by kernel_rfl) (by kernel_rfl) (fun _ _ _ h => h) (Or.inl ⟨by kernel_rfl, ?_⟩) hS ?_
            rotate_left
            · (intro w' hSw; obtain ⟨p0, p1⟩ := hSw; go_simp <;> with_reducible rfl)
            try simp only [List.getElem_toArray, List.getElem_cons_succ, List.getElem_cons_zero, Act.put, List.setIfInBounds_toArray, List.set_cons_zero, List.set_cons_succ]
            refine reg_take (i := 5) (v := ?_) rfl (by kernel_rfl) (by kernel_rfl) (by kernel_rfl) (fun _ _ _ h => h) (Or.inl ⟨by kernel_rfl, ?_⟩) hS ?_
            rotate_left
            · (intro w' hSw; obtain ⟨p0, p1⟩ := hSw; go_simp <;> with_reducible rfl)
            try simp only [List.getElem_toArray, List.getElem_cons_succ, List.getElem_cons_zero, Act.put, List.setIfInBounds_toArray, List.set_cons_zero, List.set_cons_succ]
            refine reg_call (i := 6) rfl (by kernel_rfl) (fun K hK => ?_)
            have HK := Lib.hid hK
            clear hK
            go_simp
            refine (inside_any m n (by omega) W8.drew).mono ?_
            rintro e w9 ⟨rfl, hb9⟩
            have hes9 := HY.out.drew.below hb9
            have H9 := Lib.hid hes9
            clear hb9 hes9
            go_wp2_with fail
            refine HK.out.to (fun w' : World => w'.cell? ⟨y, 0, none⟩ = some (.int .i64 (m : Nat)) ∧ w'.cell? ⟨y, 1, none⟩ = some (.int .i64 (n : Nat))) (fun _ h => h) (⟨es_c0 H9.out, es_c1 H9.out⟩) ?_
            clear HK hS
            have hS : (fun w' : World => w'.cell? ⟨y, 0, none⟩ = some (.int .i64 (m : Nat)) ∧ w'.cell? ⟨y, 1, none⟩ = some (.int .i64 (n : Nat))) (w9) := ⟨es_c0 H9.out, es_c1 H9.out⟩
            try simp only [List.getElem_toArray, List.getElem_cons_succ, List.getElem_cons_zero, Act.put, List.setIfInBounds_toArray, List.set_cons_zero, List.set_cons_succ]
            refine reg_call (i := 7) rfl (by kernel_rfl) (fun K hK => ?_)
            have HK := Lib.hid hK
            clear hK
            go_simp
            refine (put_es H9.out (v : Nat) ((64 - m - n : Nat) : Int) (by omega) (by have := HV.out.2; omega) (by omega) (by omega) (by simp only [List.length_append, bitsTo_length]; omega)).mono ?_
            rintro e w10 ⟨rfl, g10, hes10⟩
            have H10 := Lib.hid hes10
            clear hes10
            go_wp2_with fail
            refine HK.out.to (fun w' : World => w'.cell? ⟨y, 0, none⟩ = some (.int .i64 (m : Nat)) ∧ w'.cell? ⟨y, 1, none⟩ = some (.int .i64 (n : Nat))) (fun _ h => h) (⟨es_c0 H10.out, es_c1 H10.out⟩) ?_
            clear HK hS
            have hS : (fun w' : World => w'.cell? ⟨y, 0, none⟩ = some (.int .i64 (m : Nat)) ∧ w'.cell? ⟨y, 1, none⟩ = some (.int .i64 (n : Nat))) (w10) := ⟨es_c0 H10.out, es_c1 H10.out⟩
            try simp only [List.getElem_toArray, List.getElem_cons_succ, List.getElem_cons_zero, Act.put, List.setIfInBounds_toArray, List.set_cons_zero, List.set_cons_succ]
            refine wpAnyH_done (by kernel_rfl) ?_ _
            try simp only [List.getElem_toArray, List.getElem_cons_succ, List.getElem_cons_zero]
            try simp only [List.getElem_toArray, List.getElem_cons_succ, List.getElem_cons_zero, Act.put, List.setIfInBounds_toArray, List.set_cons_zero, List.set_cons_succ]
            go_wp2_with fail
            go_roundw
            case rel =>
              obtain ⟨e1, e2⟩ := HE.out.2.2.2 (j + 2) rfl
              obtain ⟨e3, e4⟩ := xbits_old HQ.out HF.out
              refine ⟨j + 2, g10, by omega, by go_num, ?_⟩
              rw [e1, e2, e3, e4, ← List.append_assoc]
              have := H10.out
              rw [HV.out.1] at this
              exact this
            case measure => simp [intOf]; omega
    · obtain rfl : k = len := by omega
      have HR := Lib.hid (And.intro hes.out hes.keeps)
      clear hes
      go_wp2_with fail
      refine (bytes_wr _ _ _ _ HR.out.1).mono ?_
      rintro e w3 ⟨A2, c2, rfl, ho2, hk2⟩
      have H3 := Lib.hid (And.intro (own_base ho2 HR.out.2.size) (HR.out.2.trans' hk2))
      clear ho2 hk2
      go_wp2_with fail
      go_ret2
      exact ⟨A2, c2, rfl, H3.out.1, H3.out.2⟩
end Go.Proofs.Ytboecnakndpgfaa.X
