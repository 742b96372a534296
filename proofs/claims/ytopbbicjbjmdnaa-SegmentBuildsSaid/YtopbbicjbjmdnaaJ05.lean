/-
  Texts of this proof, joined: XorE, ColC, ColD, Points, SgC.
-/
import Derived.Test.YtopbbicjbjmdnaaJ04
import Derived.WalkMore
import Derived.Test.YtopbbicjbjmdnaaJ02
import Derived.Test.YtopbbicjbjmdnaaJ03
import Derived.WalkKit
import Derived.WalkSpells
import Derived.WalkLawsBesides
import Derived.Outline
import Derived.Laws.Tables
import Derived.Deep.Cut
import Derived.Test.YtopbbicjbjmdnaaJ01
import Derived.Test.YtopbbicjbjmdnaaRows
import Derived.Deep.Slices
import Derived.Deep.Fields
import Derived.ChangeSame
namespace Go.Proofs.Ytopbbicjbjmdnaa.X
set_option maxRecDepth 100000
open Go.RowKit
set_option linter.unusedVariables false
set_option linter.unusedSimpArgs false
def XEncPost (w : World) (bs : List Nat) (e : Ending) (w' : World) : Prop :=
  ∃ A c, e = .returned (.tuple #[.slice A bs.length c, .int .i64 0]) ∧ w'.ownsRow w.heap.size 5 1 (.slice A bs.length c) bs.length (bs.map byteV) ∧ Keeps (fun _ => False) w w'
set_option maxRecDepth 100000 in
set_option maxHeartbeats 1600000 in
theorem xencode_any (w : World) (A : Option Addr) (len c : Nat) (D : Nat → Prop) (f : Nat → Nat) (hsl : Sl w D A len (fun j => .int .u64 (f j : Nat))) (hf : ∀ j, f j < 18446744073709551616) (hlen : len ≤ 4096) :
    Calls Try.prog 30 #[.slice A len c] w (XEncPost w (pack (xencTo f len))) := by
  have HS := Lib.hid (And.intro hsl hf)
  clear hsl hf
  have d0 : decide ((4096 : Int) < len) = false := by simp; omega
  go_enter Try.func30, Try.ntmps30
  go_wp2_with fail
  go_step3
  go_wp2_with fail
  refine (newWriter_any _).mono ?_
  rintro e w1 ⟨rfl, hx1, hk1⟩
  obtain ⟨x, hx⟩ : ∃ x, x = w.heap.size := ⟨_, rfl⟩
  rw [← hx] at hx1
  rw [← hx]
  have H1 := Lib.hid (And.intro hx1 (And.intro hk1 hx))
  clear hx1 hk1 hx d0
  go_wp2_with fail
  refine (none_any _).mono ?_
  rintro e w2 ⟨rfl, hb2⟩
  obtain ⟨y, hy⟩ : ∃ y, y = w2.heap.size := ⟨_, rfl⟩
  have H2 := Lib.hid (And.intro hb2 hy)
  clear hb2 hy
  go_wp2_with fail
  rw [← H2.out.2]
  go_step3
  go_wp2_with fail
  go_loopw [17] (fun i wr => ∃ (k : Nat) (g : Option Nat), k ≤ len ∧ i = .int .i64 k ∧ ES w x y g (xencTo f k) (xwin f k) wr)
    (fun i _ => len - (intOf i).toNat)
  case atStart =>
    obtain ⟨hx1, hk1, hx⟩ := H1.out
    obtain ⟨hb2, hy⟩ := H2.out
    have hk2 : Keeps (fun _ => False) w1 (w2.alloc (.cells #[.int .i64 (-1), .int .i64 (-1)] 85)) := (Keeps.of_below hb2).alloc _
    refine ⟨0, none, Nat.zero_le _, rfl, hx1.keeps hk2 (fun h => h) (fun _ _ h => h), ?_, hk1.trans' hk2, (fun _ h => by cases h), by omega, ?_⟩
    · rw [hy]; exact Blk.fresh _ _ _
    · rw [hy]; exact Nat.le_trans hk1.size hb2.size
  case round =>
    obtain ⟨k, g, hk, rfl, hes⟩ := hrel
    by_cases hlt : k < len
    · obtain ⟨b, off, hA, hD, hcell⟩ := (HS.out.1.keep (w' := wr) (fun q _ hq => hes.keeps.block q hq (fun h => h))) (by omega)
      have ck : wr.cell? ⟨b, off + k, none⟩ = some (.int .u64 (f k : Nat)) := hcell k hlt
      have hcp : 1 ≤ k → wr.cell? ⟨b, off + (k - 1), none⟩ = some (.int .u64 (f (k - 1) : Nat)) := fun h => hcell (k - 1) (by omega)
      subst hA
      have HE := Lib.hid hes
      clear hes hcell
      have hlk := xencTo_len f k
      rcases Nat.eq_zero_or_pos k with hk0 | hk0
      · subst hk0
        clear hcp hlk
        have hu := HS.out.2 0
        obtain ⟨u, hu'⟩ : ∃ u, u = f 0 := ⟨_, rfl⟩
        rw [← hu'] at ck hu
        have HU := Lib.hid (And.intro hu hu')
        clear hu hu'
        rw [show ((0 : Nat) : Int) = 0 from rfl]
        rw [Nat.add_zero] at ck
        go_wp2_with fail
        refine (put_es HE.out (u : Nat) 64 (by omega) (by have := HU.out.1; omega) (by omega) (by omega) (by simp [xencTo])).mono ?_
        rintro e w3 ⟨rfl, g3, hes3⟩
        have H3 := Lib.hid hes3
        clear hes3 ck
        go_wp2_with fail
        go_roundw
        case rel =>
          refine ⟨1, g3, by omega, rfl, ?_⟩
          have := H3.out
          rw [show ((u : Int)).toNat = u from rfl, show (64 : Int).toNat = 64 from rfl, HU.out.2] at this
          exact this
        case measure => simp [intOf]; omega
      · obtain ⟨j, rfl⟩ : ∃ j, k = j + 1 := ⟨k - 1, by omega⟩
        have cp := hcp (by omega)
        rw [show j + 1 - 1 = j by omega] at cp
        obtain ⟨a, ha⟩ : ∃ a, a = f (j + 1) := ⟨_, rfl⟩
        obtain ⟨p, hp⟩ : ∃ p, p = f j := ⟨_, rfl⟩
        obtain ⟨q, hq⟩ : ∃ q, q = a ^^^ p := ⟨_, rfl⟩
        have r1 := HS.out.2 (j + 1)
        have r2 := HS.out.2 j
        rw [← ha] at ck r1
        rw [← hp] at cp r2
        have hqx : bits .xor .u64 (a : Int) (p : Int) = (q : Int) := by rw [u64_xor_nat _ _ r1 r2, hq]
        have hql : q < 18446744073709551616 := by rw [hq]; exact xor_lt r1 r2
        obtain ⟨L, hL⟩ : ∃ L, L = xencTo f (j + 1) := ⟨_, rfl⟩
        obtain ⟨o, ho⟩ : ∃ o, o = xwin f (j + 1) := ⟨_, rfl⟩
        have hok : WinOk o := by rw [ho]; exact xwin_ok HS.out.2 _
        have hes := HE.out
        rw [← hL, ← ho] at hes
        rw [← hL] at hlk
        have hfin : ∀ k', k' = j + 2 → xencTo f k' = L ++ xbits o q ∧ xwin f k' = nextW o q := by
          rintro k' rfl; rw [hL, ho, hq, ha, hp]; exact ⟨rfl, rfl⟩
        clear HE
        have HE := Lib.hid (And.intro hes (And.intro hql (And.intro hok hfin)))
        clear hes hql hok hfin hL ho hq ha hp r1 r2 hcp hk0
        rw [show ((j + 1 : Nat) : Int) = (j : Int) + 1 from rfl]
        by_cases h0 : q = 0
        · subst h0
          rw [show ((0 : Nat) : Int) = 0 from rfl] at hqx
          go_wp2_with fail
          refine (put_es HE.out.1 0 1 (by omega) (by omega) (by omega) (by omega) (by omega)).mono ?_
          rintro e w3 ⟨rfl, g3, hes3⟩
          have H3 := Lib.hid hes3
          clear hes3 ck cp hqx
          go_wp2_with fail
          go_roundw
          case rel =>
            obtain ⟨e1, e2⟩ := HE.out.2.2.2 (j + 2) rfl
            refine ⟨j + 2, g3, by omega, by go_num, ?_⟩
            rw [e1, e2]
            exact H3.out
          case measure => simp [intOf]; omega
        · have dq : ((q : Int) == 0) = false := by simp [h0]
          have HQ := Lib.hid h0
          clear h0
          go_wp2_with fail
          refine (of_any q HE.out.2.1 _).mono ?_
          rintro e w3 ⟨rfl, hb3⟩
          obtain ⟨l, t, hc⟩ := winC_two o
          have hes3 := HE.out.1.below (hb3.alloc hb3.size (.cells #[.int .i64 (lead q : Nat), .int .i64 (trail q : Nat)] 85))
          have hbz := Blk.fresh w3 85 #[.int .i64 (lead q : Nat), .int .i64 (trail q : Nat)]
          have hw3 := hes3.win
          rw [hc] at hw3
          have p0 := hw3.cell 0
          have p1 := hw3.cell 1
          simp at p0 p1
          have H3 := Lib.hid (And.intro hes3 (And.intro hbz hc))
          clear hes3 hbz hw3 hc hb3 ck cp hqx dq
          go_wp2_with fail
          clear p0 p1
          refine (has_es o q l t H3.out.2.2 _).mono ?_
          rintro e w4 ⟨rfl, hb4⟩
          have hes4 := H3.out.1.below hb4
          have hbz4 := H3.out.2.1.below hb4 H3.out.2.1.lt
          obtain ⟨z, hz⟩ : ∃ z, z = w3.heap.size := ⟨_, rfl⟩
          rw [← hz] at hbz4
          rw [← hz]
          have H4 := Lib.hid (And.intro hes4 hbz4)
          clear hes4 hbz4 hb4 H3 hz
          cases hfit : fits o q
          · have HF := Lib.hid hfit
            clear hfit
            have hwl := window_le (u := q) (by have := HQ.out; omega) HE.out.2.1
            have hb := H4.out.1.win
            obtain ⟨l', t', hc'⟩ := winC_two o
            rw [hc'] at hb
            have f0 := hb.frozen
            have y0 := hb.cell 0
            have y1 := hb.cell 1
            have z0 := H4.out.2.cell 0
            have z1 := H4.out.2.cell 1
            simp at y0 y1 z0 z1
            obtain ⟨m, hm⟩ : ∃ m, m = lead q := ⟨_, rfl⟩
            obtain ⟨n, hn⟩ : ∃ n, n = trail q := ⟨_, rfl⟩
            have hset := H4.out.1.set (lead q) (trail q)
            rw [← hm] at z0
            rw [← hn] at z1
            rw [← hm, ← hn] at hwl hset
            rw [← hm, ← hn]
            have HM := Lib.hid (And.intro hm (And.intro hn hset))
            clear hm hn hset hb hc'
            go_wp2_with fail
            refine (put_es HM.out.2.2 3 2 (by omega) (by omega) (by omega) (by omega) (by omega)).mono ?_
            rintro e w5 ⟨rfl, g5, hes5⟩
            have H5 := Lib.hid hes5
            have y0 := es_c0 hes5
            have y1 := es_c1 hes5
            clear hes5 f0 z0 z1
            have ew : IntKind.u64.wrap (m : Int) = (m : Int) := by rw [IntKind.wrap_u64]; omega
            go_wp2_with fail
            refine (put_es H5.out (m : Nat) 6 (by omega) (by omega) (by omega) (by omega) (by simp only [List.length_append, bitsTo_length]; omega)).mono ?_
            rintro e w6 ⟨rfl, g6, hes6⟩
            clear y0 y1 ew
            have y0 := es_c0 hes6
            have y1 := es_c1 hes6
            have H6 := Lib.hid hes6
            clear hes6
            go_wp2_with fail
            refine (inside_any m n (by omega) _).mono ?_
            rintro e w7 ⟨rfl, hb7⟩
            have hes7 := H6.out.below hb7
            have H7 := Lib.hid hes7
            clear hb7 hes7 y0 y1
            obtain ⟨s, hs⟩ : ∃ s, s = 64 - m - n := ⟨_, rfl⟩
            rw [← hs]
            have hs1 : 1 ≤ s := by omega
            have hs64 : s ≤ 64 := by omega
            have HSS := Lib.hid hs
            clear hs
            have ew : IntKind.u64.wrap ((s : Int) - 1) = ((s - 1 : Nat) : Int) := by rw [IntKind.wrap_u64]; omega
            go_wp2_with fail
            refine (put_es H7.out ((s - 1 : Nat) : Int) 6 (by omega) (by omega) (by omega) (by omega) (by simp only [List.length_append, bitsTo_length]; omega)).mono ?_
            rintro e W8 ⟨rfl, g8, hes8⟩
            have HY := Lib.hid hes8
            clear hes8 ew
            go_wp2_with fail
            obtain ⟨v, hv⟩ : ∃ v, v = q / 2 ^ n := ⟨_, rfl⟩
            have hvi : (q : Int) / 2 ^ n = (v : Int) := by rw [hv, div_cast]
            have hvl : v < 18446744073709551616 := by rw [hv]; exact Nat.lt_of_le_of_lt (Nat.div_le_self _ _) HE.out.2.1
            have HV := Lib.hid (And.intro hv hvl)
            clear hv hvl
            have hn63 : n ≤ 63 := by omega
            have hn64 : n < 64 := by omega
            have hS : (fun w' : World => w'.cell? ⟨y, 0, none⟩ = some (.int .i64 (m : Nat)) ∧ w'.cell? ⟨y, 1, none⟩ = some (.int .i64 (n : Nat))) (W8.drew) := ⟨es_c0 HY.out.drew, es_c1 HY.out.drew⟩
            refine reg_start (fun w' : World => w'.cell? ⟨y, 0, none⟩ = some (.int .i64 (m : Nat)) ∧ w'.cell? ⟨y, 1, none⟩ = some (.int .i64 (n : Nat))) (by kernel_rfl) hS ?_
            refine reg_take (i := 0) (v := ?_) rfl (by kernel_rfl) (by kernel_rfl) (by kernel_rfl) (fun _ _ _ h => h) (Or.inl ⟨by kernel_rfl, ?_⟩) hS ?_
            rotate_left
            · (intro w' hSw; go_simp <;> with_reducible rfl)
            try simp only [List.getElem_toArray, List.getElem_cons_succ, List.getElem_cons_zero, Act.put, List.setIfInBounds_toArray, List.set_cons_zero, List.set_cons_succ]
            refine reg_take (i := 1) (v := ?_) rfl (by kernel_rfl) (by kernel_rfl) (by kernel_rfl) (fun _ _ _ h => h) (Or.inl ⟨by kernel_rfl, ?_⟩) hS ?_
            rotate_left
            · (intro w' hSw; go_simp <;> with_reducible rfl)
            try simp only [List.getElem_toArray, List.getElem_cons_succ, List.getElem_cons_zero, Act.put, List.setIfInBounds_toArray, List.set_cons_zero, List.set_cons_succ]
            refine reg_take (i := 2) (v := ?_) rfl (by kernel_rfl) (by kernel_rfl) (by kernel_rfl) (fun _ _ _ h => h) (Or.inl ⟨by kernel_rfl, ?_⟩) hS ?_
            rotate_left
            · (intro w' hSw; obtain ⟨p0, p1⟩ := hSw; go_simp <;> with_reducible rfl)
            try simp only [List.getElem_toArray, List.getElem_cons_succ, List.getElem_cons_zero, Act.put, List.setIfInBounds_toArray, List.set_cons_zero, List.set_cons_succ]
            refine reg_take (i := 3) (v := ?_) rfl (by kernel_rfl) (by kernel_rfl) (by kernel_rfl) (fun _ _ _ h => h) (Or.inl ⟨by kernel_rfl, ?_⟩) hS ?_
            rotate_left
            · (intro w' hSw; obtain ⟨p0, p1⟩ := hSw; go_simp <;> with_reducible rfl)
            try simp only [List.getElem_toArray, List.getElem_cons_succ, List.getElem_cons_zero, Act.put, List.setIfInBounds_toArray, List.set_cons_zero, List.set_cons_succ]
            refine reg_take (i := 4) (v := ?_) rfl (by kernel_rfl) (by kernel_rfl) (by kernel_rfl) (fun _ _ _ h => h) (Or.inl ⟨by kernel_rfl, ?_⟩) hS ?_
            rotate_left
            · (intro w' hSw; obtain ⟨p0, p1⟩ := hSw; go_simp <;> with_reducible rfl)
            try simp only [List.getElem_toArray, List.getElem_cons_succ, List.getElem_cons_zero, Act.put, List.setIfInBounds_toArray, List.set_cons_zero, List.set_cons_succ]
            refine reg_take (i := 5) (v := ?_) rfl (by kernel_rfl) (by kernel_rfl) (by kernel_rfl) (fun _ _ _ h => h) (Or.inl ⟨by kernel_rfl, ?_⟩) hS ?_
            rotate_left
            · (intro w' hSw; obtain ⟨p0, p1⟩ := hSw; go_simp <;> with_reducible rfl)
            try simp only [List.getElem_toArray, List.getElem_cons_succ, List.getElem_cons_zero, Act.put, List.setIfInBounds_toArray, List.set_cons_zero, List.set_cons_succ]
            refine reg_call (i := 6) rfl (by kernel_rfl) (fun K hK => ?_)
            have HK := Lib.hid hK
            clear hK
            go_simp
            refine (inside_any m n (by omega) W8.drew).mono ?_
            rintro e w9 ⟨rfl, hb9⟩
            have hes9 := HY.out.drew.below hb9
            have H9 := Lib.hid hes9
            clear hb9 hes9
            go_wp2_with fail
            refine HK.out.to (fun w' : World => w'.cell? ⟨y, 0, none⟩ = some (.int .i64 (m : Nat)) ∧ w'.cell? ⟨y, 1, none⟩ = some (.int .i64 (n : Nat))) (fun _ h => h) (⟨es_c0 H9.out, es_c1 H9.out⟩) ?_
            clear HK hS
            have hS : (fun w' : World => w'.cell? ⟨y, 0, none⟩ = some (.int .i64 (m : Nat)) ∧ w'.cell? ⟨y, 1, none⟩ = some (.int .i64 (n : Nat))) (w9) := ⟨es_c0 H9.out, es_c1 H9.out⟩
            try simp only [List.getElem_toArray, List.getElem_cons_succ, List.getElem_cons_zero, Act.put, List.setIfInBounds_toArray, List.set_cons_zero, List.set_cons_succ]
            refine reg_call (i := 7) rfl (by kernel_rfl) (fun K hK => ?_)
            have HK := Lib.hid hK
            clear hK
            go_simp
            refine (put_es H9.out (v : Nat) ((64 - m - n : Nat) : Int) (by omega) (by have := HV.out.2; omega) (by omega) (by omega) (by simp only [List.length_append, bitsTo_length]; omega)).mono ?_
            rintro e w10 ⟨rfl, g10, hes10⟩
            have H10 := Lib.hid hes10
            clear hes10
            go_wp2_with fail
            refine HK.out.to (fun w' : World => w'.cell? ⟨y, 0, none⟩ = some (.int .i64 (m : Nat)) ∧ w'.cell? ⟨y, 1, none⟩ = some (.int .i64 (n : Nat))) (fun _ h => h) (⟨es_c0 H10.out, es_c1 H10.out⟩) ?_
            clear HK hS
            have hS : (fun w' : World => w'.cell? ⟨y, 0, none⟩ = some (.int .i64 (m : Nat)) ∧ w'.cell? ⟨y, 1, none⟩ = some (.int .i64 (n : Nat))) (w10) := ⟨es_c0 H10.out, es_c1 H10.out⟩
            try simp only [List.getElem_toArray, List.getElem_cons_succ, List.getElem_cons_zero, Act.put, List.setIfInBounds_toArray, List.set_cons_zero, List.set_cons_succ]
            refine wpAnyH_done (by kernel_rfl) ?_ _
            try simp only [List.getElem_toArray, List.getElem_cons_succ, List.getElem_cons_zero]
            try simp only [List.getElem_toArray, List.getElem_cons_succ, List.getElem_cons_zero, Act.put, List.setIfInBounds_toArray, List.set_cons_zero, List.set_cons_succ]
            go_wp2_with fail
            go_roundw
            case rel =>
              obtain ⟨e1, e2⟩ := HE.out.2.2.2 (j + 2) rfl
              obtain ⟨e3, e4⟩ := xbits_new HQ.out HF.out
              refine ⟨j + 2, g10, by omega, by go_num, ?_⟩
              rw [e1, e2, e3, e4, ← List.append_assoc, ← List.append_assoc, ← List.append_assoc, ← HM.out.1, ← HM.out.2.1]
              have := H10.out
              rw [HSS.out, HV.out.1] at this
              exact this
            case measure => simp [intOf]; omega
          · obtain ⟨m, n, rfl⟩ : ∃ m n, o = some (m, n) := by
              cases o with
              | none => simp [fits] at hfit
              | some p => exact ⟨p.1, p.2, rfl⟩
            have HF := Lib.hid hfit
            clear hfit
            have hwl : m + n ≤ 63 := HE.out.2.2.1 (m, n) rfl
            go_wp2_with fail
            refine (put_es H4.out.1 2 2 (by omega) (by omega) (by omega) (by omega) (by omega)).mono ?_
            rintro e W8 ⟨rfl, g8, hes8⟩
            have HY := Lib.hid hes8
            clear hes8
            go_wp2_with fail
            obtain ⟨v, hv⟩ : ∃ v, v = q / 2 ^ n := ⟨_, rfl⟩
            have hvi : (q : Int) / 2 ^ n = (v : Int) := by rw [hv, div_cast]
            have hvl : v < 18446744073709551616 := by rw [hv]; exact Nat.lt_of_le_of_lt (Nat.div_le_self _ _) HE.out.2.1
            have HV := Lib.hid (And.intro hv hvl)
            clear hv hvl
            have hn63 : n ≤ 63 := by omega
            have hn64 : n < 64 := by omega
            have hS : (fun w' : World => w'.cell? ⟨y, 0, none⟩ = some (.int .i64 (m : Nat)) ∧ w'.cell? ⟨y, 1, none⟩ = some (.int .i64 (n : Nat))) (W8.drew) := ⟨es_c0 HY.out.drew, es_c1 HY.out.drew⟩
            refine reg_start (fun w' : World => w'.cell? ⟨y, 0, none⟩ = some (.int .i64 (m : Nat)) ∧ w'.cell? ⟨y, 1, none⟩ = some (.int .i64 (n : Nat))) (by kernel_rfl) hS ?_
            refine reg_take (i := 0) (v := ?_) rfl (by kernel_rfl) (by kernel_rfl) (by kernel_rfl) (fun _ _ _ h => h) (Or.inl ⟨by kernel_rfl, ?_⟩) hS ?_
            rotate_left
            · (intro w' hSw; go_simp <;> with_reducible rfl)
            try simp only [List.getElem_toArray, List.getElem_cons_succ, List.getElem_cons_zero, Act.put, List.setIfInBounds_toArray, List.set_cons_zero, List.set_cons_succ]
            refine reg_take (i := 1) (v := ?_) rfl (by kernel_rfl) (by kernel_rfl) (by kernel_rfl) (fun _ _ _ h => h) (Or.inl ⟨by kernel_rfl, ?_⟩) hS ?_
            rotate_left
            · (intro w' hSw; go_simp <;> with_reducible rfl)
            try simp only [List.getElem_toArray, List.getElem_cons_succ, List.getElem_cons_zero, Act.put, List.setIfInBounds_toArray, List.set_cons_zero, List.set_cons_succ]
            refine reg_take (i := 2) (v := ?_) rfl (by kernel_rfl) (by kernel_rfl) (by kernel_rfl) (fun _ _ _ h => h) (Or.inl ⟨by kernel_rfl, ?_⟩) hS ?_
            rotate_left
            · (intro w' hSw; obtain ⟨p0, p1⟩ := hSw; go_simp <;> with_reducible rfl)
            try simp only [List.getElem_toArray, List.getElem_cons_succ, List.getElem_cons_zero, Act.put, List.setIfInBounds_toArray, List.set_cons_zero, List.set_cons_succ]
            refine reg_take (i := 3) (v := ?_) rfl (by kernel_rfl) (by kernel_rfl) (by kernel_rfl) (fun _ _ _ h => h) (Or.inl ⟨by kernel_rfl, ?_⟩) hS ?_
            rotate_left
            · (intro w' hSw; obtain ⟨p0, p1⟩ := hSw; go_simp <;> with_reducible rfl)
            try simp only [List.getElem_toArray, List.getElem_cons_succ, List.getElem_cons_zero, Act.put, List.setIfInBounds_toArray, List.set_cons_zero, List.set_cons_succ]
            refine reg_take (i := 4) (v := ?_) rfl (by kernel_rfl) (by kernel_rfl) (by kernel_rfl) (fun _ _ _ h => h) (Or.inl ⟨by kernel_rfl, ?_⟩) hS ?_
            rotate_left
            · (intro w' hSw; obtain ⟨p0, p1⟩ := hSw; go_simp <;> with_reducible rfl)
            try simp only [List.getElem_toArray, List.getElem_cons_succ, List.getElem_cons_zero, Act.put, List.setIfInBounds_toArray, List.set_cons_zero, List.set_cons_succ]
            refine reg_take (i := 5) (v := ?_) rfl (by kernel_rfl) (by kernel_rfl) (by kernel_rfl) (fun _ _ _ h => h) (Or.inl ⟨by kernel_rfl, ?_⟩) hS ?_
            rotate_left
            · (intro w' hSw; obtain ⟨p0, p1⟩ := hSw; go_simp <;> with_reducible rfl)
            try simp only [List.getElem_toArray, List.getElem_cons_succ, List.getElem_cons_zero, Act.put, List.setIfInBounds_toArray, List.set_cons_zero, List.set_cons_succ]
            refine reg_call (i := 6) rfl (by kernel_rfl) (fun K hK => ?_)
            have HK := Lib.hid hK
            clear hK
            go_simp
            refine (inside_any m n (by omega) W8.drew).mono ?_
            rintro e w9 ⟨rfl, hb9⟩
            have hes9 := HY.out.drew.below hb9
            have H9 := Lib.hid hes9
            clear hb9 hes9
            go_wp2_with fail
            refine HK.out.to (fun w' : World => w'.cell? ⟨y, 0, none⟩ = some (.int .i64 (m : Nat)) ∧ w'.cell? ⟨y, 1, none⟩ = some (.int .i64 (n : Nat))) (fun _ h => h) (⟨es_c0 H9.out, es_c1 H9.out⟩) ?_
            clear HK hS
            have hS : (fun w' : World => w'.cell? ⟨y, 0, none⟩ = some (.int .i64 (m : Nat)) ∧ w'.cell? ⟨y, 1, none⟩ = some (.int .i64 (n : Nat))) (w9) := ⟨es_c0 H9.out, es_c1 H9.out⟩
            try simp only [List.getElem_toArray, List.getElem_cons_succ, List.getElem_cons_zero, Act.put, List.setIfInBounds_toArray, List.set_cons_zero, List.set_cons_succ]
            refine reg_call (i := 7) rfl (by kernel_rfl) (fun K hK => ?_)
            have HK := Lib.hid hK
            clear hK
            go_simp
            refine (put_es H9.out (v : Nat) ((64 - m - n : Nat) : Int) (by omega) (by have := HV.out.2; omega) (by omega) (by omega) (by simp only [List.length_append, bitsTo_length]; omega)).mono ?_
            rintro e w10 ⟨rfl, g10, hes10⟩
            have H10 := Lib.hid hes10
            clear hes10
            go_wp2_with fail
            refine HK.out.to (fun w' : World => w'.cell? ⟨y, 0, none⟩ = some (.int .i64 (m : Nat)) ∧ w'.cell? ⟨y, 1, none⟩ = some (.int .i64 (n : Nat))) (fun _ h => h) (⟨es_c0 H10.out, es_c1 H10.out⟩) ?_
            clear HK hS
            have hS : (fun w' : World => w'.cell? ⟨y, 0, none⟩ = some (.int .i64 (m : Nat)) ∧ w'.cell? ⟨y, 1, none⟩ = some (.int .i64 (n : Nat))) (w10) := ⟨es_c0 H10.out, es_c1 H10.out⟩
            try simp only [List.getElem_toArray, List.getElem_cons_succ, List.getElem_cons_zero, Act.put, List.setIfInBounds_toArray, List.set_cons_zero, List.set_cons_succ]
            refine wpAnyH_done (by kernel_rfl) ?_ _
            try simp only [List.getElem_toArray, List.getElem_cons_succ, List.getElem_cons_zero]
            try simp only [List.getElem_toArray, List.getElem_cons_succ, List.getElem_cons_zero, Act.put, List.setIfInBounds_toArray, List.set_cons_zero, List.set_cons_succ]
            go_wp2_with fail
            go_roundw
            case rel =>
              obtain ⟨e1, e2⟩ := HE.out.2.2.2 (j + 2) rfl
              obtain ⟨e3, e4⟩ := xbits_old HQ.out HF.out
              refine ⟨j + 2, g10, by omega, by go_num, ?_⟩
              rw [e1, e2, e3, e4, ← List.append_assoc]
              have := H10.out
              rw [HV.out.1] at this
              exact this
            case measure => simp [intOf]; omega
    · obtain rfl : k = len := by omega
      have HR := Lib.hid (And.intro hes.out hes.keeps)
      clear hes
      go_wp2_with fail
      refine (bytes_wr _ _ _ _ HR.out.1).mono ?_
      rintro e w3 ⟨A2, c2, rfl, ho2, hk2⟩
      have H3 := Lib.hid (And.intro (own_base ho2 HR.out.2.size) (HR.out.2.trans' hk2))
      clear ho2 hk2
      go_wp2_with fail
      go_ret2
      exact ⟨A2, c2, rfl, H3.out.1, H3.out.2⟩
end Go.Proofs.Ytopbbicjbjmdnaa.X
namespace Go.Proofs.Ytopbbicjbjmdnaa
open Go.RowKit
set_option linter.unusedVariables false
set_option linter.unusedSimpArgs false
def tOf (f : Nat → Pt) (n j : Nat) : Int := if j < n then (f j).t else 0
def sOf (f : Nat → Pt) (n j : Nat) : Int := if j < n then (f j).s else 0
def vOf (f : Nat → Pt) (n j : Nat) : Nat := if j < n then (IntKind.u64.wrap (f j).v).toNat else 0
/-- The three parts of a column. -/
def partA (f : Nat → Pt) (n : Nat) : Nat → List Nat
  | 0 => pack (D.encTo (tOf f n) n)
  | 1 => pack (X.xencTo (vOf f n) n)
  | _ => pack (D.encTo (sOf f n) n)
def colUp (f : Nat → Pt) (n : Nat) : Nat → List Nat
  | 0 => V.vput n
  | j + 1 => colUp f n j ++ V.vput (partA f n j).length ++ partA f n j
def colL (f : Nat → Pt) (n : Nat) : List Nat × Int := if colV f n = true then (F.sealL 3 (colUp f n 3), 0) else ([], 2)
theorem u64_lt (v : Int) : (IntKind.u64.wrap v).toNat < 18446744073709551616 := by rw [IntKind.wrap_u64]; omega
theorem vOf_lt (f : Nat → Pt) (n j : Nat) : vOf f n j < 18446744073709551616 := by
  unfold vOf
  split
  · exact u64_lt _
  · omega
theorem partA_byte (f : Nat → Pt) (n j : Nat) : ∀ i, (partA f n j).getD i 0 < 256 := by
  intro i
  match j with
  | 0 => show (pack _).getD i 0 < 256; rw [pack_getD]; exact byteAt_lt (D.encTo_bit _ _) i
  | 1 => show (pack _).getD i 0 < 256; rw [pack_getD]; exact byteAt_lt (X.xencTo_bit _ _) i
  | j + 2 => show (pack _).getD i 0 < 256; rw [pack_getD]; exact byteAt_lt (D.encTo_bit _ _) i
theorem partA_len (f : Nat → Pt) (n j : Nat) (hn : n ≤ 4096) : (partA f n j).length ≤ 40000 := by
  match j with
  | 0 => show (pack _).length ≤ _; rw [pack_length]; have := D.encTo_len (tOf f n) n; omega
  | 1 => show (pack _).length ≤ _; rw [pack_length]; have := X.xencTo_len (vOf f n) n; omega
  | j + 2 => show (pack _).length ≤ _; rw [pack_length]; have := D.encTo_len (sOf f n) n; omega
theorem vput_getD (u : Nat) : ∀ i, (V.vput u).getD i 0 < 256 := V.getD_all_lt (V.vput_byte u)
theorem colUp_byte (f : Nat → Pt) (n : Nat) : ∀ j i, (colUp f n j).getD i 0 < 256
  | 0 => vput_getD n
  | j + 1 => V.getD_app_lt (V.getD_app_lt (colUp_byte f n j) (vput_getD _)) (partA_byte f n j)
theorem colUp_len (f : Nat → Pt) (n : Nat) (hn : n ≤ 4096) : ∀ j, (colUp f n j).length ≤ 10 + j * 40010
  | 0 => by have := V.vput_len10 (u := n) (by omega); show (V.vput n).length ≤ _; omega
  | j + 1 => by
    have h1 := colUp_len f n hn j
    have h2 := partA_len f n j hn
    have h3 := V.vput_len10 (u := (partA f n j).length) (by omega)
    show (colUp f n j ++ V.vput (partA f n j).length ++ partA f n j).length ≤ _
    rw [List.length_append, List.length_append]
    omega
theorem colOk_range {f : Nat → Pt} {n : Nat} (h : colV f n = true) (j : Nat) (hj : j < n) : -9223372036854775808 ≤ (f j).t ∧ (f j).t ≤ 9223372036854775807 ∧ -9223372036854775808 ≤ (f j).s ∧ (f j).s ≤ 9223372036854775807 := by
  have ha := (colV_spec h).1
  have hl : ∀ m, m < n → -1152921504606846977 ≤ colT f m := by
    intro m
    induction m with
    | zero => intro _; exact Int.le_refl _
    | succ m ih =>
      intro hm
      have h4 := (colOk_iff f m).1 (colAll_at n ha m (by omega))
      have := ih (by omega)
      show _ ≤ (f m).t
      omega
  have h4 := (colOk_iff f j).1 (colAll_at n ha j hj)
  have := hl j hj
  omega
theorem tOf_range {f : Nat → Pt} {n : Nat} (h : colV f n = true) (j : Nat) : -9223372036854775808 ≤ tOf f n j ∧ tOf f n j ≤ 9223372036854775807 := by
  unfold tOf
  split
  · rename_i hj; have := colOk_range h j hj; omega
  · omega
theorem sOf_range {f : Nat → Pt} {n : Nat} (h : colV f n = true) (j : Nat) : -9223372036854775808 ≤ sOf f n j ∧ sOf f n j ≤ 9223372036854775807 := by
  unfold sOf
  split
  · rename_i hj; have := colOk_range h j hj; omega
  · omega
/-- The cells of the three rows: times, values, numbers. -/
def colC (f : Nat → Pt) (c : Fin 3) (j : Nat) : Value :=
  match c with
  | 0 => .int .i64 (f j).t
  | 1 => .int .u64 (IntKind.u64.wrap (f j).v)
  | 2 => .int .i64 (f j).s
def colRow (f : Nat → Pt) (k : Nat) (c : Fin 3) : List Value := (List.range k).map (colC f c)
theorem colRow_len (f : Nat → Pt) (k : Nat) (c : Fin 3) : (colRow f k c).length = k := by simp [colRow]
theorem colRow_succ (f : Nat → Pt) (k : Nat) (c : Fin 3) : colRow f (k + 1) c = colRow f k c ++ [colC f c k] := by unfold colRow; rw [List.range_succ, List.map_append]; rfl
def cE (c : Fin 3) : TypeId := match c with | 0 => 3 | 1 => 42 | 2 => 3
def cT (c : Fin 3) : TypeId := match c with | 0 => 65 | 1 => 66 | 2 => 65
def cZ (c : Fin 3) : Value := match c with | 0 => .int .i64 0 | 1 => .int .u64 0 | 2 => .int .i64 0
theorem cElem (c : Fin 3) : Elem1 Try.prog (cT c) (cE c) (cZ c) 8 :=
  match c with
  | 0 => Elem1.mk' Try.underlying65 rfl (by kernel_rfl)
  | 1 => Elem1.mk' Try.underlying66 rfl (by kernel_rfl)
  | 2 => Elem1.mk' Try.underlying65 rfl (by kernel_rfl)
theorem map_sl {w : World} {base : Nat} {e : TypeId} {n c : Nat} {A : Option Addr} {g g' : Nat → Value} (ho : w.ownsRow base e 1 (.slice A n c) n ((List.range n).map g)) (h : ∀ j, j < n → g j = g' j) : Sl w (fun k => (Value.slice A n c).ownBlock = some k) A n g' := by
  refine Sl.of_own ho ?_
  intro j u hu
  rw [List.getElem?_map] at hu
  rcases Nat.lt_or_ge j n with hj | hj
  · rw [List.getElem?_range hj] at hu
    rw [← h j hj]
    simpa using hu.symm
  · rw [List.getElem?_eq_none (by simpa using hj)] at hu
    cases hu
theorem txt_strB {bs : List Nat} (h : ∀ j, bs.getD j 0 < 256) : V.txt (strB bs) = bs := by
  unfold V.txt strB
  simp only [List.map_map]
  conv => rhs; rw [← List.map_id bs]
  apply List.map_congr_left
  intro b hb
  have : b < 256 := F.mem_byte h b hb
  simp
  omega
theorem strB_size (bs : List Nat) : (strB bs).size = bs.length := by simp [strB, ByteArray.size]
/-- What stands behind the rows of the first n points. -/
structure Rows3 (w0 w : World) (f : Nat → Pt) (n : Nat) (v : Fin 3 → Value) : Prop where
  r : R3 cE w0 w w0.heap.size v (colRow f n)
theorem r3_sl {w0 w : World} {x n : Nat} {v : Fin 3 → Value} {f : Nat → Pt} (h : R3 cE w0 w x v (colRow f n)) (c : Fin 3) : ∃ A cap, v c = .slice A n cap ∧ n ≤ cap ∧ ∀ g', (∀ j, j < n → colC f c j = g' j) → Sl w (fun k => k < w.heap.size) A n g' := by
  have ho := h.own c
  rw [colRow_len] at ho
  obtain ⟨A, cap, hv, hc, -⟩ := own_form ho
  rw [hv] at ho
  refine ⟨A, cap, hv, hc, fun g' hg => (map_sl ho hg).mono (fun k hk => (ho.lt k hk).2)⟩
theorem col_t {f : Nat → Pt} {n j : Nat} (h : j < n) : colC f 0 j = .int .i64 (tOf f n j) := by unfold tOf; rw [if_pos h]; rfl
theorem col_s {f : Nat → Pt} {n j : Nat} (h : j < n) : colC f 2 j = .int .i64 (sOf f n j) := by unfold sOf; rw [if_pos h]; rfl
theorem col_v {f : Nat → Pt} {n j : Nat} (h : j < n) : colC f 1 j = .int .u64 (vOf f n j : Nat) := by
  unfold vOf; rw [if_pos h]
  show Value.int .u64 _ = _
  congr 1
  rw [IntKind.wrap_u64]; omega
/-- A part that an encoder has given. -/
structure PartIs (w0 w : World) (A : Option Addr) (c : Nat) (bs : List Nat) : Prop where
  own : w.ownsRow w0.heap.size 5 1 (.slice A bs.length c) bs.length (bs.map byteV)
theorem PartIs.keeps {w0 w w' : World} {A : Option Addr} {c : Nat} {bs : List Nat} (h : PartIs w0 w A c bs) (hk : Keeps (fun _ => False) w w') : PartIs w0 w' A c bs := ⟨own_keeps h.own hk (fun _ _ h => h)⟩
theorem PartIs.sl {w0 w : World} {A : Option Addr} {c : Nat} {bs : List Nat} (h : PartIs w0 w A c bs) : Sl w (fun k => k < w.heap.size) A bs.length (byteC bs) := V.ow_sl h.own
/-- The bytes laid so far. -/
def InIs (w0 w : World) (v : Value) (bs : List Nat) : Prop := w.ownsRow w0.heap.size 5 1 v bs.length (bs.map byteV)
theorem InIs.keeps {w0 w w' : World} {v : Value} {bs : List Nat} (h : InIs w0 w v bs) (hk : Keeps (fun _ => False) w w') : InIs w0 w' v bs := own_keeps h hk (fun _ _ h => h)
theorem InIs.form {w0 w : World} {v : Value} {bs : List Nat} (h : InIs w0 w v bs) : ∃ A c, v = .slice A bs.length c ∧ bs.length ≤ c ∧ Sl w (fun k => k < w.heap.size) A bs.length (byteC bs) := by
  unfold InIs at h
  obtain ⟨A, c, rfl, hc, -⟩ := own_form h
  exact ⟨A, c, rfl, hc, V.ow_sl h⟩
theorem col_up (f : Nat → Pt) (n j : Nat) : colUp f n j ++ V.vput (strB (partA f n j)).size ++ V.txt (strB (partA f n j)) = colUp f n (j + 1) := by
  rw [strB_size, txt_strB (partA_byte f n j)]; rfl
theorem col_bad {w w' : World} {f : Nat → Pt} {n : Nat} (h : colV f n = false) (hk : Keeps (fun _ => False) w w') : F.BytesPost w (colL f n).1 (colL f n).2 (.returned (.tuple #[.slice none 0 0, .int .i64 2])) w' := by
  unfold colL
  rw [h]
  exact ⟨none, 0, rfl, ⟨rfl, .inl ⟨rfl, rfl⟩⟩, hk⟩
theorem col_good {w w1 w' : World} {f : Nat → Pt} {n : Nat} {e : Ending} (h : colV f n = true) (hk : Keeps (fun _ => False) w w1) (hp : F.BytesPost w1 (F.sealL 3 (colUp f n 3)) 0 e w') : F.BytesPost w (colL f n).1 (colL f n).2 e w' := by
  unfold colL
  rw [h]
  obtain ⟨A, c, h1, h2, h3⟩ := hp
  exact ⟨A, c, h1, own_base h2 hk.size, hk.trans' h3⟩
end Go.Proofs.Ytopbbicjbjmdnaa
namespace Go.Proofs.Ytopbbicjbjmdnaa
open Go.RowKit
set_option linter.unusedVariables false
set_option linter.unusedSimpArgs false
theorem W3.start {e : Fin 3 → TypeId} {w0 w : World} {x y : Nat} {v z : Fin 3 → Value} {l : Fin 3 → List Value} (h : R3 e w0 w x v l) (hy : y = w.heap.size) (t : TypeId) (cs : Array Value) :
    W3 e w0 x v z l y (some (.cells cs t (0, 0))) (fun _ => .z) (w.alloc (.cells cs t)) := by
  subst hy
  exact ⟨h.alloc _, fun c q hq => (by cases hq), Blk.fresh _ _ _, fun d g hg => (by have := (h.lt d hg).2; omega), by simp⟩
theorem W3.drew {e : Fin 3 → TypeId} {w0 w : World} {x y : Nat} {v z : Fin 3 → Value} {l : Fin 3 → List Value} {Y : Option Obj} {s : Fin 3 → Sg} (h : W3 e w0 x v z l y Y s w) : W3 e w0 x v z l y Y s w.drew :=
  ⟨h.r.drew, h.cel, h.yk, h.yn, h.yl⟩
def eTb (c : Fin 3) : Nat := match c with | 0 => 30 | 1 => 36 | 2 => 41
def eTr (c : Fin 3) : Nat := match c with | 0 => 31 | 1 => 37 | 2 => 42
def eTm (c : Fin 3) : Nat := match c with | 0 => 27 | 1 => 32 | 2 => 38
def eTv (c : Fin 3) : Nat := match c with | 0 => 29 | 1 => 35 | 2 => 40
def eJb (c : Fin 3) : Nat := match c with | 0 => 3 | 1 => 9 | 2 => 14
def eJa (c : Fin 3) : Nat := match c with | 0 => 4 | 1 => 10 | 2 => 15
def eLst (s : Fin 3 → Sg) : Array Bool := #[true, true, true, (s 0).b1, (s 0).b2, true, true, true, true, (s 1).b1, (s 1).b2, true, true, true, (s 2).b1, (s 2).b2, false, false, false]
theorem eSix : Six eTb eTr := by unfold Six; decide
theorem eLb (s : Fin 3 → Sg) (c : Fin 3) (q : Nat) (hs : s c = .z) : (eLst s).setIfInBounds (eJb c) true = eLst (upd s c (.b q)) := by
  unfold eLst
  match c, hs with
  | 0, hs => rw [upd_same, upd_ne _ _ (by decide), upd_ne _ _ (by decide), hs]; rfl
  | 1, hs => rw [upd_same, upd_ne _ _ (by decide), upd_ne _ _ (by decide), hs]; rfl
  | 2, hs => rw [upd_same, upd_ne _ _ (by decide), upd_ne _ _ (by decide), hs]; rfl
theorem eLr (s : Fin 3 → Sg) (c : Fin 3) (q : Nat) (v' : Value) (hs : s c = .b q) : (eLst s).setIfInBounds (eJa c) true = eLst (upd s c (.r q v')) := by
  unfold eLst
  match c, hs with
  | 0, hs => rw [upd_same, upd_ne _ _ (by decide), upd_ne _ _ (by decide), hs]; rfl
  | 1, hs => rw [upd_same, upd_ne _ _ (by decide), upd_ne _ _ (by decide), hs]; rfl
  | 2, hs => rw [upd_same, upd_ne _ _ (by decide), upd_ne _ _ (by decide), hs]; rfl
theorem left0 {s : Fin 3 → Sg} (h : left3 s = 0) (c : Fin 3) : ∃ q v, s c = .r q v := by
  unfold left3 at h
  have : (s c).left = 0 := by match c with | 0 => omega | 1 => omega | 2 => omega
  cases hs : s c with
  | z => rw [hs] at this; cases this
  | b q => rw [hs] at this; cases this
  | r q v => exact ⟨q, v, rfl⟩
def zOf (p : Pt) (c : Fin 3) : Value := match c with | 0 => .int .i64 p.t | 1 => .int .u64 (IntKind.u64.wrap p.v) | 2 => .int .i64 p.s
theorem zOf_is (f : Nat → Pt) (k : Nat) : zOf (f k) = fun c => colC f c k := by funext c; match c with | 0 => rfl | 1 => rfl | 2 => rfl
theorem W3.last {w0 w : World} {x y k : Nat} {v : Fin 3 → Value} {f : Nat → Pt} {p : Pt} {Y : Option Obj} {s : Fin 3 → Sg} (h : W3 cE w0 x v (zOf p) (colRow f k) y Y s w) (hp : f k = p) (hl : left3 s = 0) :
    R3 cE w0 w x (fun c => (s c).row (v c)) (colRow f (k + 1)) := by
  have hr := h.r
  have e : (fun c => (s c).lst (colRow f k c) (zOf p c)) = colRow f (k + 1) := by
    funext c
    obtain ⟨q, u, hs⟩ := left0 hl c
    rw [hs, colRow_succ, ← hp, zOf_is]; rfl
  rw [e] at hr
  exact hr
set_option maxRecDepth 100000 in
theorem index3 (A0 A1 A2 : Option Addr) (n0 n1 n2 c0 c1 c2 : Nat) (w : World) :
    (Instr.index 69 (.agg #[.slice A0 n0 c0, .slice A1 n1 c1, .slice A2 n2 c2]) (.int .i64 0)).run Try.prog w = .ok (.slice A0 n0 c0) w ∧
    (Instr.index 69 (.agg #[.slice A0 n0 c0, .slice A1 n1 c1, .slice A2 n2 c2]) (.int .i64 1)).run Try.prog w = .ok (.slice A1 n1 c1) w ∧
    (Instr.index 69 (.agg #[.slice A0 n0 c0, .slice A1 n1 c1, .slice A2 n2 c2]) (.int .i64 2)).run Try.prog w = .ok (.slice A2 n2 c2) w := by
  refine ⟨?_, rfl, rfl⟩
  unfold Instr.index
  simp [run_underlying Try.underlying69, asIntOf, go_sem]
set_option maxRecDepth 100000 in
set_option maxHeartbeats 8000000 in
theorem cencode_any (A : Option Addr) (n c : Nat) (f : Nat → Pt) (D0 : Nat → Prop) (w : World) (hsl : SlP w D0 A n f) (hn : n ≤ 9223372036854775807) :
    Calls Try.prog 13 #[.slice A n c] w (F.BytesPost w (colL f n).1 (colL f n).2) := by
  have HO := Lib.hid hsl
  clear hsl
  go_enter Try.func13, Try.ntmps13
  go_wp2_with fail
  refine (cvalid_any _ _ _ f D0 _ HO.out hn).mono ?_
  rintro e w1 ⟨rfl, hb1⟩
  cases hv : colV f n with
  | false =>
    have HF := Lib.hid (And.intro hv (Keeps.of_below (S := fun _ => False) hb1))
    clear hv hb1
    go_wp2_with fail
    go_ret2
    exact col_bad HF.out.1 HF.out.2
  | true =>
    obtain ⟨-, hn0, hn4⟩ := colV_spec hv
    have HV := Lib.hid hv
    have HS := Lib.hid (R3.start cE (Keeps.of_below (S := fun _ => False) hb1))
    clear hv hb1
    go_wp2_with fail
    go_loopw [4, 5, 6, 23] (fun v4 v5 v6 i wr => ∃ (k : Nat) (v : Fin 3 → Value), k ≤ n ∧ i = .int .i64 k ∧ v4 = v 0 ∧ v5 = v 2 ∧ v6 = v 1 ∧ R3 cE w wr w1.heap.size v (colRow f k)) (fun _ _ _ i _ => n - (intOf i).toNat)
    case atStart => exact ⟨0, _, Nat.zero_le _, rfl, rfl, rfl, rfl, HS.out⟩
    case round =>
      obtain ⟨k, v, hk, rfl, rfl, rfl, rfl, hR⟩ := hrel
      by_cases hlt : k < n
      · obtain ⟨b, off, rfl, -, hc⟩ := (HO.out.keeps hR.keep) (by omega)
        obtain ⟨k0, k1, k2⟩ := hc k hlt
        clear hc
        generalize hp : f k = p at k0 k1 k2
        obtain ⟨y, hy⟩ : ∃ y, y = wr.heap.size := ⟨_, rfl⟩
        have HY := Lib.hid (And.intro hy (And.intro hp (W3.start (z := zOf p) hR hy 33 #[.int .i64 p.t, .int .i64 p.v, .int .i64 p.s])))
        clear hy hp hR
        go_upto_region 8 with (fail)
        rw [← HY.out.1]
        have hS := HY.out.2.2
        have HP := Lib.hid HY.out.2.1
        clear k0 k1 k2 HY
        refine wp_gen (W3 cE w w1.heap.size v (zOf p) (colRow f k) y (some (.cells #[.int .i64 p.t, .int .i64 p.v, .int .i64 p.s] 33 (0, 0))) (fun _ => .z)) hS ?_
        clear hS
        intro w2 hS0
        have HW := Lib.hid hS0.drew
        clear hS0
        have hS : (fun w' => Blk w' y 33 #[.int .i64 p.t, .int .i64 p.v, .int .i64 p.s]) (w2.drew) := HW.out.yk
        refine reg_start (fun w' => Blk w' y 33 #[.int .i64 p.t, .int .i64 p.v, .int .i64 p.s]) (by kernel_rfl) hS ?_
        refine reg_take (i := 0) (v := ?_) rfl (by kernel_rfl) (by kernel_rfl) (by kernel_rfl) (fun _ _ _ h => h) (Or.inl ⟨by kernel_rfl, ?_⟩) hS ?_
        rotate_left
        · (intro w' hSw; have z0 := hSw.cell 0; have z1 := hSw.cell 1; have z2 := hSw.cell 2; simp only [List.getElem?_toArray, List.getElem?_cons_zero, List.getElem?_cons_succ] at z0 z1 z2; go_simp <;> with_reducible rfl)
        try simp only [List.getElem_toArray, List.getElem_cons_succ, List.getElem_cons_zero, Act.put, List.setIfInBounds_toArray, List.set_cons_zero, List.set_cons_succ]
        refine reg_take (i := 1) (v := ?_) rfl (by kernel_rfl) (by kernel_rfl) (by kernel_rfl) (fun _ _ _ h => h) (Or.inl ⟨by kernel_rfl, ?_⟩) hS ?_
        rotate_left
        · (intro w' hSw; have z0 := hSw.cell 0; have z1 := hSw.cell 1; have z2 := hSw.cell 2; simp only [List.getElem?_toArray, List.getElem?_cons_zero, List.getElem?_cons_succ] at z0 z1 z2; go_simp <;> with_reducible rfl)
        try simp only [List.getElem_toArray, List.getElem_cons_succ, List.getElem_cons_zero, Act.put, List.setIfInBounds_toArray, List.set_cons_zero, List.set_cons_succ]
        refine reg_take (i := 2) (v := ?_) rfl (by kernel_rfl) (by kernel_rfl) (by kernel_rfl) (fun _ _ _ h => h) (Or.inl ⟨by kernel_rfl, ?_⟩) hS ?_
        rotate_left
        · (intro w' hSw; have z0 := hSw.cell 0; have z1 := hSw.cell 1; have z2 := hSw.cell 2; simp only [List.getElem?_toArray, List.getElem?_cons_zero, List.getElem?_cons_succ] at z0 z1 z2; go_simp <;> with_reducible rfl)
        try simp only [List.getElem_toArray, List.getElem_cons_succ, List.getElem_cons_zero, Act.put, List.setIfInBounds_toArray, List.set_cons_zero, List.set_cons_succ]
        refine reg_take (i := 5) (v := ?_) rfl (by kernel_rfl) (by kernel_rfl) (by kernel_rfl) (fun _ _ _ h => h) (Or.inl ⟨by kernel_rfl, ?_⟩) hS ?_
        rotate_left
        · (intro w' hSw; have z0 := hSw.cell 0; have z1 := hSw.cell 1; have z2 := hSw.cell 2; simp only [List.getElem?_toArray, List.getElem?_cons_zero, List.getElem?_cons_succ] at z0 z1 z2; go_simp <;> with_reducible rfl)
        try simp only [List.getElem_toArray, List.getElem_cons_succ, List.getElem_cons_zero, Act.put, List.setIfInBounds_toArray, List.set_cons_zero, List.set_cons_succ]
        refine reg_take (i := 6) (v := ?_) rfl (by kernel_rfl) (by kernel_rfl) (by kernel_rfl) (fun _ _ _ h => h) (Or.inl ⟨by kernel_rfl, ?_⟩) hS ?_
        rotate_left
        · (intro w' hSw; have z0 := hSw.cell 0; have z1 := hSw.cell 1; have z2 := hSw.cell 2; simp only [List.getElem?_toArray, List.getElem?_cons_zero, List.getElem?_cons_succ] at z0 z1 z2; go_simp <;> with_reducible rfl)
        try simp only [List.getElem_toArray, List.getElem_cons_succ, List.getElem_cons_zero, Act.put, List.setIfInBounds_toArray, List.set_cons_zero, List.set_cons_succ]
        refine reg_take (i := 7) (v := ?_) rfl (by kernel_rfl) (by kernel_rfl) (by kernel_rfl) (fun _ _ _ h => h) (Or.inl ⟨by kernel_rfl, ?_⟩) hS ?_
        rotate_left
        · (intro w' hSw; have z0 := hSw.cell 0; have z1 := hSw.cell 1; have z2 := hSw.cell 2; simp only [List.getElem?_toArray, List.getElem?_cons_zero, List.getElem?_cons_succ] at z0 z1 z2; go_simp <;> with_reducible rfl)
        try simp only [List.getElem_toArray, List.getElem_cons_succ, List.getElem_cons_zero, Act.put, List.setIfInBounds_toArray, List.set_cons_zero, List.set_cons_succ]
        refine reg_take (i := 8) (v := ?_) rfl (by kernel_rfl) (by kernel_rfl) (by kernel_rfl) (fun _ _ _ h => h) (Or.inl ⟨by kernel_rfl, ?_⟩) hS ?_
        rotate_left
        · (intro w' hSw; have z0 := hSw.cell 0; have z1 := hSw.cell 1; have z2 := hSw.cell 2; simp only [List.getElem?_toArray, List.getElem?_cons_zero, List.getElem?_cons_succ] at z0 z1 z2; go_simp <;> with_reducible rfl)
        try simp only [List.getElem_toArray, List.getElem_cons_succ, List.getElem_cons_zero, Act.put, List.setIfInBounds_toArray, List.set_cons_zero, List.set_cons_succ]
        refine reg_take (i := 11) (v := ?_) rfl (by kernel_rfl) (by kernel_rfl) (by kernel_rfl) (fun _ _ _ h => h) (Or.inl ⟨by kernel_rfl, ?_⟩) hS ?_
        rotate_left
        · (intro w' hSw; have z0 := hSw.cell 0; have z1 := hSw.cell 1; have z2 := hSw.cell 2; simp only [List.getElem?_toArray, List.getElem?_cons_zero, List.getElem?_cons_succ] at z0 z1 z2; go_simp <;> with_reducible rfl)
        try simp only [List.getElem_toArray, List.getElem_cons_succ, List.getElem_cons_zero, Act.put, List.setIfInBounds_toArray, List.set_cons_zero, List.set_cons_succ]
        refine reg_take (i := 12) (v := ?_) rfl (by kernel_rfl) (by kernel_rfl) (by kernel_rfl) (fun _ _ _ h => h) (Or.inl ⟨by kernel_rfl, ?_⟩) hS ?_
        rotate_left
        · (intro w' hSw; have z0 := hSw.cell 0; have z1 := hSw.cell 1; have z2 := hSw.cell 2; simp only [List.getElem?_toArray, List.getElem?_cons_zero, List.getElem?_cons_succ] at z0 z1 z2; go_simp <;> with_reducible rfl)
        try simp only [List.getElem_toArray, List.getElem_cons_succ, List.getElem_cons_zero, Act.put, List.setIfInBounds_toArray, List.set_cons_zero, List.set_cons_succ]
        refine reg_take (i := 13) (v := ?_) rfl (by kernel_rfl) (by kernel_rfl) (by kernel_rfl) (fun _ _ _ h => h) (Or.inl ⟨by kernel_rfl, ?_⟩) hS ?_
        rotate_left
        · (intro w' hSw; have z0 := hSw.cell 0; have z1 := hSw.cell 1; have z2 := hSw.cell 2; simp only [List.getElem?_toArray, List.getElem?_cons_zero, List.getElem?_cons_succ] at z0 z1 z2; go_simp <;> with_reducible rfl)
        try simp only [List.getElem_toArray, List.getElem_cons_succ, List.getElem_cons_zero, Act.put, List.setIfInBounds_toArray, List.set_cons_zero, List.set_cons_succ]
        refine run3 (tb := eTb) (tr := eTr) (jb := eJb) (ja := eJa) (tm := eTm) (tv := eTv) (t := cT) (e := cE) (zz := cZ) (by_ := fun _ => 8) (lst := eLst) (v := v) (z := zOf p) (l := colRow f k) (y := y) ?hR _ ?hsz ?hm ?hv ?h1 ?hl ?hSS 3 ?hend 6 (fun _ => .z) _ rfl ⟨(fun h => by cases h), (fun h => by cases h)⟩ HW.out
        case hR =>
          refine ⟨eSix, cElem, fun c => ?_, fun c => ?_, by unfold eTm eTv eTb eTr; decide, eLb, eLr, fun s hok hs => ?_⟩
          · match c with
            | 0 => exact ⟨_, rfl, rfl, rfl, rfl⟩
            | 1 => exact ⟨_, rfl, rfl, rfl, rfl⟩
            | 2 => exact ⟨_, rfl, rfl, rfl, rfl⟩
          · match c with
            | 0 => exact ⟨_, rfl, rfl, rfl, rfl⟩
            | 1 => exact ⟨_, rfl, rfl, rfl, rfl⟩
            | 2 => exact ⟨_, rfl, rfl, rfl, rfl⟩
          · unfold left3 at hs
            unfold eLst cnx
            unfold okc at hok
            generalize s 0 = a0 at hs hok ⊢
            generalize s 1 = a1 at hs hok ⊢
            generalize s 2 = a2 at hs hok ⊢
            cases a0 <;> cases a1 <;> cases a2 <;> first | (exfalso; simp [Sg.left] at hs; done) | (exfalso; simp [Sg.b2] at hok; done) | (clear hs hok; simp only [Sg.b1, Sg.b2, Sg.nxc, eJb, eJa, List.cons_append, List.nil_append, if_true, Bool.false_eq_true, if_false]; kernel_rfl)
        case hsz => intro c; match c with | 0 => exact (show (30 : Nat) < 79 by decide) | 1 => exact (show (36 : Nat) < 79 by decide) | 2 => exact (show (41 : Nat) < 79 by decide)
        case hm => intro c; match c with | 0 => rfl | 1 => rfl | 2 => rfl
        case hv => intro c; match c with | 0 => rfl | 1 => rfl | 2 => rfl
        case h1 => intro c; match c with | 0 => rfl | 1 => rfl | 2 => rfl
        case hl => intro c; rw [colRow_len]; unfold maxLen; omega
        case hSS => exact fun s w hW => hW.yk
        case hend =>
          clear HW hS
          intro s w3 hl0 hW
          have hS : (fun w' => Blk w' y 33 #[.int .i64 p.t, .int .i64 p.v, .int .i64 p.s]) w3 := hW.yk
          have hl := hW.last HP.out hl0
          obtain ⟨q0, u0, h0⟩ := left0 hl0 0
          obtain ⟨q1, u1, h1⟩ := left0 hl0 1
          obtain ⟨q2, u2, h2⟩ := left0 hl0 2
          have e0 : u0 = (fun c => (s c).row (v c)) 0 := by simp only [h0]; rfl
          have e1 : u1 = (fun c => (s c).row (v c)) 1 := by simp only [h1]; rfl
          have e2 : u2 = (fun c => (s c).row (v c)) 2 := by simp only [h2]; rfl
          generalize (fun c => (s c).row (v c)) = v' at hl e0 e1 e2
          have HL := Lib.hid hl
          clear hl hW hl0
          unfold act3 eLst
          rw [h0, h1, h2, puts_r, puts_r, puts_r, e0, e1, e2]
          clear h0 h1 h2 e0 e1 e2
          simp only [Sg.b1, Sg.b2, eTb, eTr, Act.put, List.setIfInBounds_toArray, List.set_cons_zero, List.set_cons_succ]
          refine reg_take (i := 16) (v := ?_) rfl (by kernel_rfl) (by kernel_rfl) (by kernel_rfl) (fun _ _ _ h => h) (Or.inl ⟨by kernel_rfl, ?_⟩) hS ?_
          rotate_left
          · (intro w' hSw; go_simp <;> with_reducible rfl)
          try simp only [List.getElem_toArray, List.getElem_cons_succ, List.getElem_cons_zero, Act.put, List.setIfInBounds_toArray, List.set_cons_zero, List.set_cons_succ]
          refine reg_take (i := 17) (v := ?_) rfl (by kernel_rfl) (by kernel_rfl) (by kernel_rfl) (fun _ _ _ h => h) (Or.inl ⟨by kernel_rfl, ?_⟩) hS ?_
          rotate_left
          · (intro w' hSw; go_simp <;> with_reducible rfl)
          try simp only [List.getElem_toArray, List.getElem_cons_succ, List.getElem_cons_zero, Act.put, List.setIfInBounds_toArray, List.set_cons_zero, List.set_cons_succ]
          refine reg_take (i := 18) (v := ?_) rfl (by kernel_rfl) (by kernel_rfl) (by kernel_rfl) (fun _ _ _ h => h) (Or.inl ⟨by kernel_rfl, ?_⟩) hS ?_
          rotate_left
          · (intro w' hSw; go_simp <;> with_reducible rfl)
          try simp only [List.getElem_toArray, List.getElem_cons_succ, List.getElem_cons_zero, Act.put, List.setIfInBounds_toArray, List.set_cons_zero, List.set_cons_succ]
          refine wpAnyH_done (by kernel_rfl) ?_ _
          try simp only [List.getElem_toArray, List.getElem_cons_succ, List.getElem_cons_zero]
          try simp only [List.getElem_toArray, List.getElem_cons_succ, List.getElem_cons_zero, Act.put, List.setIfInBounds_toArray, List.set_cons_zero, List.set_cons_succ]
          clear hS
          go_wp2_with fail
          go_roundw
          case rel => exact ⟨k + 1, v', by omega, by go_num, rfl, rfl, rfl, HL.out⟩
          case measure => simp [intOf]; omega
      · obtain rfl : k = n := by omega
        obtain ⟨A0, c0, ev0, hc0, hs0⟩ := r3_sl hR 0
        obtain ⟨A1, c1, ev1, hc1, hs1⟩ := r3_sl hR 1
        obtain ⟨A2, c2, ev2, hc2, hs2⟩ := r3_sl hR 2
        rw [ev0, ev1, ev2]
        have HK := Lib.hid hR.keep
        have H1 := Lib.hid (hs1 _ (fun j hj => col_v hj))
        have H2 := Lib.hid (hs2 _ (fun j hj => col_s hj))
        have H0 := Lib.hid (hs0 _ (fun j hj => col_t hj))
        clear hs0 hs1 hs2 ev0 ev1 ev2 hR HS
        go_wp2_with fail
        refine (D.encode_any _ _ _ _ _ (tOf f k) H0.out (tOf_range HV.out) hn4).mono ?_
        rintro e w2 ⟨B0, d0, rfl, hr0, hk0⟩
        have P0 := Lib.hid (show PartIs wr w2 B0 d0 (partA f k 0) from ⟨hr0⟩)
        have H1 := Lib.hid (H1.out.keeps hk0 (fun _ _ h => h))
        have H2 := Lib.hid (H2.out.keeps hk0 (fun _ _ h => h))
        have HK := Lib.hid (HK.out.trans' hk0)
        rw [show (pack (D.encTo (tOf f k) k)) = partA f k 0 from rfl]
        clear hr0 hk0 H0
        go_wp2_with fail
        refine (X.xencode_any _ _ _ _ _ (vOf f k) H1.out (vOf_lt f k) hn4).mono ?_
        rintro e w3 ⟨B1, d1, rfl, hr1, hk1⟩
        have P0 := Lib.hid (P0.out.keeps hk1)
        have P1 := Lib.hid (show PartIs w2 w3 B1 d1 (partA f k 1) from ⟨hr1⟩)
        have H2 := Lib.hid (H2.out.keeps hk1 (fun _ _ h => h))
        have HK := Lib.hid (HK.out.trans' hk1)
        rw [show (pack (X.xencTo (vOf f k) k)) = partA f k 1 from rfl]
        clear hr1 hk1 H1
        go_wp2_with fail
        refine (D.encode_any _ _ _ _ _ (sOf f k) H2.out (sOf_range HV.out) hn4).mono ?_
        rintro e w4 ⟨B2, d2, rfl, hr2, hk2⟩
        have P0 := Lib.hid (P0.out.keeps hk2)
        have P1 := Lib.hid (P1.out.keeps hk2)
        have P2 := Lib.hid (show PartIs w3 w4 B2 d2 (partA f k 2) from ⟨hr2⟩)
        have HK := Lib.hid (HK.out.trans' hk2)
        rw [show (pack (D.encTo (sOf f k) k)) = partA f k 2 from rfl]
        clear hr2 hk2 H2
        go_wp2_with fail
        refine (V.vput_any _ none 0 0 [] _ rfl (Sl.nil _ _ _ _) (by omega) (by omega) ?_ ?_).mono ?_
        · first | omega | (rw [IntKind.wrap_u64]; omega)
        · first | omega | (rw [IntKind.wrap_u64]; omega)
        rintro e w5 ⟨v5, rfl, hi5, hb5⟩
        have hk5 := Keeps.of_below (S := fun _ => False) hb5
        have hi5' : InIs w4 w5 v5 (colUp f k 0) := by
          have e : ([] ++ V.vput ((k : Int)).toNat) = colUp f k 0 := by simp; rfl
          unfold InIs
          first | (rw [← e]; exact hi5) | (rw [IntKind.wrap_u64] at hi5; rw [← e]; have e2 : ((k : Int) % 18446744073709551616).toNat = ((k : Int)).toNat := by omega
                                           rw [e2] at hi5; exact hi5)
        have P0 := Lib.hid (P0.out.keeps hk5)
        have P1 := Lib.hid (P1.out.keeps hk5)
        have P2 := Lib.hid (P2.out.keeps hk5)
        have HK := Lib.hid (HK.out.trans' hk5)
        have HI := Lib.hid hi5'
        have HZ := Lib.hid hk5.size
        clear hi5 hi5' hb5 hk5
        have l0 : (partA f k 0).length ≤ 40000 := partA_len f k 0 hn4
        have l1 : (partA f k 1).length ≤ 40000 := partA_len f k 1 hn4
        have l2 : (partA f k 2).length ≤ 40000 := partA_len f k 2 hn4
        have HL := Lib.hid (And.intro l0 (And.intro l1 l2))
        clear l0 l1 l2
        go_wp2_with fail
        go_loopw [15, 67] (fun v15 i wr => ∃ j : Nat, j ≤ 3 ∧ i = .int .i64 j ∧ InIs w4 wr v15 (colUp f k j) ∧ Keeps (fun _ => False) w5 wr) (fun _ i _ => 3 - (intOf i).toNat)
        case atStart => exact ⟨0, Nat.zero_le _, rfl, HI.out, Keeps.refl _ _⟩
        case round =>
          obtain ⟨j, hj, rfl, hI, hkk⟩ := hrel
          obtain ⟨A5, c5, rfl, hc5, hs5⟩ := hI.form
          have hl5 := colUp_len f k hn4 j
          have HI := Lib.hid (And.intro hs5 (And.intro hkk hl5))
          clear hI hs5 hkk hl5
          have h4 : j = 0 ∨ j = 1 ∨ j = 2 ∨ j = 3 := by omega
          rcases h4 with rfl | rfl | rfl | rfl
          ·
            rw [show ((0 : Nat) : Int) = 0 from rfl]
            have hcv := conv_sl (P := Try.prog) (c := d0) 24 5 9 Try.underlying24 Try.underlying5 Try.underlying9 (bs := partA f k 0) rfl (P0.out.keeps HI.out.2.1).sl
            obtain ⟨i0, i1, i2⟩ := index3 B0 B1 B2 (partA f k 0).length (partA f k 1).length (partA f k 2).length d0 d1 d2 wr
            go_wp2_with fail
            clear hcv i0 i1 i2
            refine (V.putText_any _ _ _ _ (colUp f k 0) _ rfl HI.out.1 hc5 ?_ ?_).mono ?_
            · have := HI.out.2.2; omega
            · rw [strB_size]; have := HL.out; omega
            rintro e w6 ⟨v6, rfl, hi6, hb6⟩
            have hk6 := Keeps.of_below (S := fun _ => False) hb6
            rw [col_up f k 0] at hi6
            have HJ := Lib.hid (And.intro (show InIs w4 w6 v6 (colUp f k (0 + 1)) from own_base hi6 (Nat.le_trans (by have := HI.out.2.1.size; have := HZ.out; omega) (Nat.le_refl _))) (HI.out.2.1.trans' hk6))
            clear hi6 hb6 hk6
            go_wp2_with fail
            go_roundw
            case rel => exact ⟨0 + 1, by omega, by go_num, HJ.out.1, HJ.out.2⟩
            case measure => simp [intOf]
          ·
            rw [show ((1 : Nat) : Int) = 1 from rfl]
            have hcv := conv_sl (P := Try.prog) (c := d1) 24 5 9 Try.underlying24 Try.underlying5 Try.underlying9 (bs := partA f k 1) rfl (P1.out.keeps HI.out.2.1).sl
            obtain ⟨i0, i1, i2⟩ := index3 B0 B1 B2 (partA f k 0).length (partA f k 1).length (partA f k 2).length d0 d1 d2 wr
            go_wp2_with fail
            clear hcv i0 i1 i2
            refine (V.putText_any _ _ _ _ (colUp f k 1) _ rfl HI.out.1 hc5 ?_ ?_).mono ?_
            · have := HI.out.2.2; omega
            · rw [strB_size]; have := HL.out; omega
            rintro e w6 ⟨v6, rfl, hi6, hb6⟩
            have hk6 := Keeps.of_below (S := fun _ => False) hb6
            rw [col_up f k 1] at hi6
            have HJ := Lib.hid (And.intro (show InIs w4 w6 v6 (colUp f k (1 + 1)) from own_base hi6 (Nat.le_trans (by have := HI.out.2.1.size; have := HZ.out; omega) (Nat.le_refl _))) (HI.out.2.1.trans' hk6))
            clear hi6 hb6 hk6
            go_wp2_with fail
            go_roundw
            case rel => exact ⟨1 + 1, by omega, by go_num, HJ.out.1, HJ.out.2⟩
            case measure => simp [intOf]
          ·
            rw [show ((2 : Nat) : Int) = 2 from rfl]
            have hcv := conv_sl (P := Try.prog) (c := d2) 24 5 9 Try.underlying24 Try.underlying5 Try.underlying9 (bs := partA f k 2) rfl (P2.out.keeps HI.out.2.1).sl
            obtain ⟨i0, i1, i2⟩ := index3 B0 B1 B2 (partA f k 0).length (partA f k 1).length (partA f k 2).length d0 d1 d2 wr
            go_wp2_with fail
            clear hcv i0 i1 i2
            refine (V.putText_any _ _ _ _ (colUp f k 2) _ rfl HI.out.1 hc5 ?_ ?_).mono ?_
            · have := HI.out.2.2; omega
            · rw [strB_size]; have := HL.out; omega
            rintro e w6 ⟨v6, rfl, hi6, hb6⟩
            have hk6 := Keeps.of_below (S := fun _ => False) hb6
            rw [col_up f k 2] at hi6
            have HJ := Lib.hid (And.intro (show InIs w4 w6 v6 (colUp f k (2 + 1)) from own_base hi6 (Nat.le_trans (by have := HI.out.2.1.size; have := HZ.out; omega) (Nat.le_refl _))) (HI.out.2.1.trans' hk6))
            clear hi6 hb6 hk6
            go_wp2_with fail
            go_roundw
            case rel => exact ⟨2 + 1, by omega, by go_num, HJ.out.1, HJ.out.2⟩
            case measure => simp [intOf]
          · rw [show ((3 : Nat) : Int) = 3 from rfl]
            go_wp2_with fail
            refine (F.seal_ok _ 3 _ _ _ _ (colUp f k 3) rfl HI.out.1 (colUp_byte f k 3) (by omega) (by have := HI.out.2.2; omega)).mono ?_
            intro e w6 hp
            obtain ⟨A6, c6, rfl, ho6, hk6⟩ := hp
            have HP := Lib.hid (And.intro ho6 hk6)
            clear ho6 hk6
            go_wp2_with fail
            go_ret2
            exact col_good HV.out (HK.out.trans' HI.out.2.1) ⟨A6, c6, rfl, HP.out.1, HP.out.2⟩
end Go.Proofs.Ytopbbicjbjmdnaa
namespace Go.Proofs.Ytopbbicjbjmdnaa
open Go.RowKit Go.ChangeShapes Go.WideShapes Go.Deep
set_option maxRecDepth 100000
/-- A slice of len points. -/
structure IsPoints (w : World) (a : Option Addr) (len cap : Nat) (f : Nat → Pt) : Prop where
  le : len ≤ cap
  cap_le : cap ≤ maxLen
  ok : ∀ j, j < len → PtOk (f j)
  sl : SlP w (fun x => x < w.heap.size) a len f
theorem points_cells : Try.prog.cellsOf 33 = 3 := by kernel_rfl
theorem open_points {H : Type} {enc : TypeId × Value → H} {w : World} {fuel : Nat} {a : Option Addr} {len cap : Nat} {x : DataW H × List MemPlace}
    (h : DataW.trod enc Try.prog w 0 (fun _ => true) true fuel 34 (Value.cells (.slice a len cap)).toList = some x) : ∃ f, IsPoints w a len cap f := by
  rcases open_slice Try.underlying34 h with ⟨hcs, _⟩ | ⟨ad, l, c, m, n, D, Pl, hcs, -, hl, hm, hmm, -, hi⟩
  · simp [Value.cells] at hcs
    obtain ⟨rfl, rfl, rfl⟩ := hcs
    exact ⟨fun _ => ⟨0, 0, 0⟩, Nat.le_refl _, Nat.zero_le _, fun j hj => by omega, fun hj => by omega⟩
  · simp [Value.cells] at hcs
    obtain ⟨rfl, rfl, rfl⟩ := hcs
    have hmc : m = cap := by simpa using hmm
    have hone : ∀ i, i < cap → ∃ p : Pt, w.cell? ((ad.add (i * 3)).add 0) = some (.int .i64 p.t) ∧ w.cell? ((ad.add (i * 3)).add 1) = some (.int .i64 p.v) ∧ w.cell? ((ad.add (i * 3)).add 2) = some (.int .i64 p.s) ∧ PtOk p := by
      intro i hic
      obtain ⟨cs', hc, ht'⟩ := hi i (by omega)
      rw [points_cells] at hc
      obtain ⟨ys, n', hn', hy, hlen, hyl, hf⟩ := DataW.trod_struct Try.underlying33 ht'
      obtain ⟨_, hcl, hat⟩ := World.cells?_some hc
      match cs', hcl with
      | [c0, c1, c2], _ =>
        match ys, hyl with
        | [y0, y1, y2], _ =>
          have hC : Try.prog.cellsOf 3 = 1 := by kernel_rfl
          have g0 := hf 0 _ rfl
          have g1 := hf 1 _ rfl
          have g2 := hf 2 _ rfl
          simp [hC] at g0
          simp [hC] at g1
          simp [hC] at g2
          obtain ⟨t, e0, -, w0⟩ := DataW.trod_int Try.underlying3 g0
          obtain ⟨v, e1, -, w1⟩ := DataW.trod_int Try.underlying3 g1
          obtain ⟨s, e2, -, w2⟩ := DataW.trod_int Try.underlying3 g2
          simp at e0 e1 e2
          subst e0 e1 e2
          exact ⟨⟨t, v, s⟩, by simpa using hat 0 (by omega), by simpa using hat 1 (by omega), by simpa using hat 2 (by omega), ⟨wf_i64 w0, wf_i64 w1, wf_i64 w2⟩⟩
    rcases Nat.eq_zero_or_pos len with h0 | h0
    · exact ⟨fun _ => ⟨0, 0, 0⟩, hl, hm, fun j hj => by omega, fun hj => by omega⟩
    · obtain ⟨b, off, spot⟩ := ad
      have hspot : spot = none := by
        obtain ⟨p, hv, -⟩ := hone 0 (by omega)
        simpa [Addr.add] using World.cell?_spot hv
      subst hspot
      have hadd : ∀ i j, ((⟨b, off, none⟩ : Addr).add i).add j = ⟨b, off + i + j, none⟩ := fun i j => by
        have h1 : (⟨b, off, none⟩ : Addr).add i = ⟨b, off + i, none⟩ := by unfold Addr.add; split <;> simp_all
        rw [h1]
        unfold Addr.add; split <;> simp_all
      have hone' : ∀ i, ∃ p : Pt, i < cap → w.cell? ⟨b, off + i * 3, none⟩ = some (.int .i64 p.t) ∧ w.cell? ⟨b, off + i * 3 + 1, none⟩ = some (.int .i64 p.v) ∧ w.cell? ⟨b, off + i * 3 + 2, none⟩ = some (.int .i64 p.s) ∧ PtOk p := by
        intro i
        by_cases hic : i < cap
        · obtain ⟨p, h1, h2, h3, h4⟩ := hone i hic
          rw [hadd] at h1 h2 h3
          exact ⟨p, fun _ => ⟨h1, h2, h3, h4⟩⟩
        · exact ⟨⟨0, 0, 0⟩, fun h => absurd h hic⟩
      have hsp := fun i => Classical.choose_spec (hone' i)
      refine ⟨fun i => Classical.choose (hone' i), hl, hm, fun j hj => (hsp j (by omega)).2.2.2, fun _ => ⟨b, off, rfl, World.block_lt_of_cell? w _ (hsp 0 (by omega)).1, fun j hj => ?_⟩⟩
      obtain ⟨h1, h2, h3, -⟩ := hsp j (by omega)
      exact ⟨h1, h2, h3⟩
theorem IsPoints.cut {w : World} {a : Option Addr} {len cap : Nat} {f : Nat → Pt} (h : IsPoints w a len cap f) (m : Nat) (hm : m ≤ len) :
    ∃ g : Nat → Pt, (∀ j, PtOk (g j)) ∧ SlP w (fun x => x < w.heap.size) a m g := by
  refine ⟨fun j => if j < m then f j else ⟨0, 0, 0⟩, fun j => ?_, (h.sl.take hm).congr fun j hj => (if_pos hj).symm⟩
  show PtOk (if j < m then f j else ⟨0, 0, 0⟩)
  by_cases hj : j < m
  · rw [if_pos hj]; exact h.ok j (by omega)
  · rw [if_neg hj]; exact ⟨by unfold I64; simp, by unfold I64; simp, by unfold I64; simp⟩
end Go.Proofs.Ytopbbicjbjmdnaa
namespace Go.Proofs.Ytopbbicjbjmdnaa
open Go.RowKit Go.Maps
set_option maxRecDepth 100000
set_option linter.unusedVariables false
set_option linter.unusedSimpArgs false
/-- Two slices of the call's own, each in a variable of one cell. -/
structure TwoIs (w0 : World) (xo xf : Nat) (vo vf : Value) (O F : List Nat) (w : World) : Prop where
  own : Own w0 [(xo, 24, #[vo]), (xf, 24, #[vf])] w
  o : w.ownsRow w0.heap.size 5 1 vo O.length (O.map V.byteV)
  f : w.ownsRow w0.heap.size 5 1 vf F.length (F.map V.byteV)
  dis : ∀ g, vo.ownBlock = some g → vf.ownBlock ≠ some g
theorem TwoIs.call {w0 w w' : World} {xo xf : Nat} {vo vf : Value} {O F : List Nat} (h : TwoIs w0 xo xf vo vf O F w) (hb : Below w.heap.size w w') : TwoIs w0 xo xf vo vf O F w' :=
  ⟨h.own.call hb, V.own_later h.o hb, V.own_later h.f hb, h.dis⟩
theorem row_set {w : World} {B n g : Nat} {v u v0 : Value} {xs : List Value} (h : w.ownsRow B 5 1 v n xs) (hg : Blk w g 24 #[v0]) : (w.setCell ⟨g, 0, none⟩ u).ownsRow B 5 1 v n xs :=
  h.kept (grown_set w g 0 u) (.inr (own_ne h hg (by decide)))
/-- The foot is a new one. -/
theorem TwoIs.foot {w0 w w' : World} {xo xf : Nat} {vo vf v' : Value} {O F F' : List Nat} (h : TwoIs w0 xo xf vo vf O F w) (hb : Below w.heap.size w w') (ho : w'.ownsRow w.heap.size 5 1 v' F'.length (F'.map V.byteV)) :
    TwoIs w0 xo xf vo v' O F' (w'.setCell ⟨xf, 0, none⟩ v') := by
  have h' := h.call hb
  have hx := h'.own.get 1 rfl
  refine ⟨h'.own.set 1 0 rfl v', row_set h'.o hx, row_set (own_base ho h.own.bel.size) hx, fun g hg hg' => ?_⟩
  have h1 := (h.o.lt g hg).2
  have h2 := (ho.lt g hg').1
  omega
theorem TwoIs.outOwn {w0 w w' : World} {xo xf : Nat} {vo vf : Value} {O F : List Nat} (h : TwoIs w0 xo xf vo vf O F w) (hg : w.grownBy w' vo.ownBlock) : Own w0 [(xo, 24, #[vo]), (xf, 24, #[vf])] w' := by
  have n1 := own_ne h.o (h.own.get 0 rfl) (by decide)
  have n2 := own_ne h.o (h.own.get 1 rfl) (by decide)
  refine ⟨V.lat_grown h.own.bel h.o hg, fun b hb => ⟨(h.own.blk b hb).1, ?_⟩, h.own.nd⟩
  show w'.heap[b.1]? = _
  have hl := h.own.lt b hb
  have hne : some b.1 ≠ vo.ownBlock := by
    rcases List.mem_cons.1 hb with rfl | hb
    · exact fun e => n1 e.symm
    · obtain rfl := List.mem_singleton.1 hb
      exact fun e => n2 e.symm
  rw [hg.block b.1 hl hne]
  exact (h.own.blk b hb).2
/-- The bytes have grown. -/
theorem TwoIs.out {w0 w w' : World} {xo xf : Nat} {vo vf v' : Value} {O F O' : List Nat} (h : TwoIs w0 xo xf vo vf O F w) (ho : w'.ownsRow w0.heap.size 5 1 v' O'.length (O'.map V.byteV)) (hg : w.grownBy w' vo.ownBlock) (hx : v'.ownBlock = vo.ownBlock ∨ v'.ownBlock = some w.heap.size) :
    TwoIs w0 xo xf v' vf O' F (w'.setCell ⟨xo, 0, none⟩ v') := by
  have hown := h.outOwn hg
  have hf' : w'.ownsRow w0.heap.size 5 1 vf F.length (F.map V.byteV) := h.f.kept hg (by
    cases e : vf.ownBlock with
    | none => exact .inl rfl
    | some g => exact .inr fun e' => h.dis g e'.symm e)
  have hxo := hown.get 0 rfl
  refine ⟨hown.set 0 0 rfl v', row_set ho hxo, row_set hf' hxo, fun g hg1 hg2 => ?_⟩
  rcases hx with hx | hx
  · exact h.dis g (by rw [← hx]; exact hg1) hg2
  · rw [hx] at hg1
    injection hg1 with hg1
    have := (h.f.lt g hg2).2
    omega
/-- What the foot tells of a block. -/
def footB (f : Nat → Pt) (n : Nat) : List Nat := V.vput (colL f n).1.length ++ V.vput (zig (f 0).t) ++ V.vput (zig (f (n - 1)).t) ++ V.vput n
def SCloPost (w0 : World) (xo xf : Nat) (O FT : List Nat) (f : Nat → Pt) (n : Nat) (e : Ending) (w' : World) : Prop :=
  e = .returned (.tuple #[]) ∧ ∃ vo vf, TwoIs w0 xo xf vo vf (O ++ (colL f n).1) (FT ++ footB f n) w'
set_option maxHeartbeats 8000000 in
theorem sclo_any (w0 w : World) (xo xf : Nat) (vo vf : Value) (O FT : List Nat) (A : Option Addr) (n c : Nat) (f : Nat → Pt) (h : TwoIs w0 xo xf vo vf O FT w) (hsl : SlP w (fun q => q < w0.heap.size) A n f) (hn : 0 < n) (hn' : n ≤ 4096) (hc : n ≤ c) (hO : O.length ≤ 1073741824) (hF : FT.length ≤ 1073741824)
    (hB : (colL f n).1.length ≤ 1073741824) (hok : ∀ j, PtOk (f j)) :
    Calls Try.prog 12 #[.slice A n c, .pointer (some ⟨xo, 0, none⟩), .pointer (some ⟨xf, 0, none⟩)] w (SCloPost w0 xo xf O FT f n) := by
  obtain ⟨b, off, rfl, hbl, hcell⟩ := hsl hn
  obtain ⟨m, rfl⟩ : ∃ m, n = m + 1 := ⟨n - 1, by omega⟩
  have hpt : ∀ wx, Below w0.heap.size w0 wx → ∀ j, j < m + 1 → wx.cell? ⟨b, off + j * 3, none⟩ = some (.int .i64 (f j).t) := fun wx hx j hj => (hx.cell (by exact hbl)).trans ((h.own.bel.cell (by exact hbl)).symm.trans (hcell j hj).1)
  have H0 := Lib.hid (And.intro h (And.intro hsl (And.intro hpt hok)))
  clear h hsl hcell hok hpt
  go_enter Try.func12, Try.ntmps12
  go_wp2_with fail
  refine (cencode_any _ (m + 1) c f _ _ H0.out.2.1 (by omega)).mono ?_
  rintro e w1 ⟨A1, c1, rfl, ho1, hk1⟩
  have h1 := H0.out.1.call hk1.to_below
  obtain ⟨B, hBe⟩ : ∃ B, B = (colL f (m + 1)).1 := ⟨_, rfl⟩
  obtain ⟨er, hee⟩ : ∃ er, er = (colL f (m + 1)).2 := ⟨_, rfl⟩
  have hB' := hB
  rw [← hBe] at ho1 hB' ⊢
  rw [← hee]
  have H1 := Lib.hid (And.intro h1 (And.intro (V.ow_sl ho1) (And.intro hBe hk1.to_below)))
  clear h1 ho1 hk1 hBe hee hB
  have zo := H1.out.1.own.cell 0 0 rfl rfl
  obtain ⟨nb, hnb⟩ : ∃ nb, nb = B.length := ⟨_, rfl⟩
  rw [← hnb]
  have HNB := Lib.hid hnb
  clear hnb
  go_wp2_with (at_builtin; refine wpList_append_sl (f := byteC B) (D := fun k => k < w1.heap.size) (base := w0.heap.size) (n := O.length) (xs := O.map V.byteV) V.byteElem rfl (.tmp 11) (.tmp 12) rfl rfl rfl ?hown ?hsl ?h1 ?h63 ?hby ?hbase ?_)
  case hown => exact H1.out.1.o
  case hsl => rw [HNB.out]; exact H1.out.2.1
  case h1 => intro j _; rfl
  case h63 => rw [HNB.out]; unfold maxLen; omega
  case hby => rw [HNB.out]; omega
  case hbase => exact H1.out.1.own.bel.size
  intro v2 w2 ho2 hg2 hx2
  have ho2' : w2.ownsRow w0.heap.size 5 1 v2 (O ++ B).length ((O ++ B).map V.byteV) := by
    have := ho2
    rw [HNB.out, ← V.range_bytes rfl] at this
    rw [List.length_append, List.map_append]
    exact this
  obtain ⟨A2, c2, hv2, -, -⟩ := own_form ho2'
  subst hv2
  obtain ⟨lo, hlo⟩ : ∃ lo, lo = (O ++ B).length := ⟨_, rfl⟩
  rw [← hlo] at ho2' ⊢
  have hW := H1.out.1.outOwn hg2
  have z0 := hW.cell 0 0 rfl rfl
  have zf := hW.free 0 rfl
  have h2 := H1.out.1.out (O' := O ++ B) (by rw [← hlo]; exact ho2') hg2 (by rw [← hlo] at hx2; exact hx2)
  have H2 := Lib.hid (And.intro h2 hlo)
  clear ho2 hg2 hx2 ho2' hW zo h2 hlo
  go_upto_region 2 with (fail)
  clear z0 zf
  refine wp_gen (TwoIs w0 xo xf (.slice A2 lo c2) vf (O ++ B) FT) H2.out.1 ?_
  intro w3 h3
  obtain ⟨Af, cf, hvf, hcf, -⟩ := own_form h3.f
  subst hvf
  obtain ⟨lf, hlf⟩ : ∃ lf, lf = FT.length := ⟨_, rfl⟩
  rw [← hlf] at hcf hF
  have zc := h3.own.cell 1 0 rfl rfl
  rw [← hlf] at zc
  have ku : IntKind.u64.wrap (nb : Int) = (nb : Int) := by rw [IntKind.wrap_u64, HNB.out]; omega
  have H3 := Lib.hid (And.intro h3 hlf.symm)
  clear h3 hlf
  go_wp2_with fail
  refine (V.vput_any _ Af lf cf FT (nb : Int) H3.out.2 (by have := V.ow_sl H3.out.1.f; rw [H3.out.2] at this; exact this) hcf (by omega) (by omega) (by rw [HNB.out]; omega)).mono ?_
  rintro e w4 ⟨v4, rfl, ho4, hb4⟩
  rw [Int.toNat_natCast] at ho4
  obtain ⟨F4, hF4⟩ : ∃ F4, F4 = FT ++ V.vput nb := ⟨_, rfl⟩
  rw [← hF4] at ho4
  have hl4 : F4.length ≤ lf + 10 := by
    have := V.vput_len10 (u := nb) (by rw [HNB.out]; omega)
    rw [hF4, List.length_append, H3.out.2]; omega
  obtain ⟨A4, c4, hv4, hc4, -⟩ := own_form ho4
  subst hv4
  have hW := H3.out.1.own.call hb4
  have z0 := hW.cell 1 0 rfl rfl
  rw [H3.out.2] at z0
  have zf := hW.free 1 rfl
  have H4 := Lib.hid (And.intro (H3.out.1.foot hb4 ho4) hF4)
  clear ho4 hb4 hW zc ku hF4
  go_upto_region 3 with (fail)
  clear z0 zf
  refine wp_gen (TwoIs w0 xo xf (.slice A2 lo c2) (.slice A4 F4.length c4) (O ++ B) F4) H4.out.1 ?_
  intro w5 h5
  obtain ⟨l4, hl4e⟩ : ∃ l, l = F4.length := ⟨_, rfl⟩
  rw [← hl4e] at h5 hl4 hc4 ⊢
  have p0 := H0.out.2.2.1 w5 h5.own.bel 0 (by omega)
  have pm := H0.out.2.2.1 w5 h5.own.bel m (by omega)
  have H5 := Lib.hid (And.intro h5 (And.intro hl4e.symm (And.intro p0 pm)))
  clear h5 hl4e p0 pm
  have km : (m : Int) < (m : Int) + 1 := by omega
  have k0 : (0 : Int) < (m : Int) + 1 := by omega
  have kw : IntKind.i64.wrap (m : Int) = (m : Int) := IntWalk.i64_in _ (by omega)
  obtain ⟨t0, ht0⟩ : ∃ z, z = (f 0).t := ⟨_, rfl⟩
  obtain ⟨tm, htm⟩ : ∃ z, z = (f m).t := ⟨_, rfl⟩
  have HT := Lib.hid (And.intro ht0 htm)
  clear ht0 htm
  have hd := H5.out.1.call (Below.refl w5.heap.size w5).drew
  have hS : (fun w' => ∃ vf FF, TwoIs w0 xo xf (.slice A2 lo c2) vf (O ++ B) FF w') (w5.drew) := ⟨_, _, hd⟩
  refine reg_start (fun w' => ∃ vf FF, TwoIs w0 xo xf (.slice A2 lo c2) vf (O ++ B) FF w') (by kernel_rfl) hS ?_
  generalize w5.drew = wd at hS hd ⊢
  have HD := Lib.hid hd
  clear hd
  refine reg_take (i := 1) (v := ?_) rfl (by kernel_rfl) (by kernel_rfl) (by kernel_rfl) (fun _ _ _ h => h) (Or.inl ⟨by kernel_rfl, ?_⟩) hS ?_
  rotate_left
  · (intro w' hSw; go_simp <;> with_reducible rfl)
  try simp only [List.getElem_toArray, List.getElem_cons_succ, List.getElem_cons_zero, Act.put, List.setIfInBounds_toArray, List.set_cons_zero, List.set_cons_succ]
  refine reg_take (i := 2) (v := ?_) rfl (by kernel_rfl) (by kernel_rfl) (by kernel_rfl) (fun _ _ _ h => h) (Or.inl ⟨by kernel_rfl, ?_⟩) hS ?_
  rotate_left
  · (intro w' hSw; go_simp <;> with_reducible rfl)
  try simp only [List.getElem_toArray, List.getElem_cons_succ, List.getElem_cons_zero, Act.put, List.setIfInBounds_toArray, List.set_cons_zero, List.set_cons_succ]
  refine reg_take (i := 3) (v := ?_) rfl (by kernel_rfl) (by kernel_rfl) (by kernel_rfl) (fun _ _ _ h => h) (Or.inl ⟨by kernel_rfl, ?_⟩) hS ?_
  rotate_left
  · (intro w' hSw; go_simp <;> with_reducible rfl)
  try simp only [List.getElem_toArray, List.getElem_cons_succ, List.getElem_cons_zero, Act.put, List.setIfInBounds_toArray, List.set_cons_zero, List.set_cons_succ]
  refine reg_take (i := 4) (v := ?_) rfl (by kernel_rfl) (by kernel_rfl) (by kernel_rfl) (fun _ _ _ h => h) (Or.inl ⟨by kernel_rfl, ?_⟩) hS ?_
  rotate_left
  · (intro w' hSw; have u0 := (by obtain ⟨_, _, hq⟩ := hSw; have := H0.out.2.2.1 w' hq.own.bel 0 (by omega); rw [← HT.out.1] at this; simpa using this : w'.cell? ⟨b, off, none⟩ = some (.int .i64 t0)); go_simp <;> with_reducible rfl)
  try simp only [List.getElem_toArray, List.getElem_cons_succ, List.getElem_cons_zero, Act.put, List.setIfInBounds_toArray, List.set_cons_zero, List.set_cons_succ]
  refine reg_take (i := 6) (v := ?_) rfl (by kernel_rfl) (by kernel_rfl) (by kernel_rfl) (fun _ _ _ h => h) (Or.inl ⟨by kernel_rfl, ?_⟩) hS ?_
  rotate_left
  · (intro w' hSw; go_simp <;> with_reducible rfl)
  try simp only [List.getElem_toArray, List.getElem_cons_succ, List.getElem_cons_zero, Act.put, List.setIfInBounds_toArray, List.set_cons_zero, List.set_cons_succ]
  refine reg_take (i := 7) (v := ?_) rfl (by kernel_rfl) (by kernel_rfl) (by kernel_rfl) (fun _ _ _ h => h) (Or.inl ⟨by kernel_rfl, ?_⟩) hS ?_
  rotate_left
  · (intro w' hSw; go_simp <;> with_reducible rfl)
  try simp only [List.getElem_toArray, List.getElem_cons_succ, List.getElem_cons_zero, Act.put, List.setIfInBounds_toArray, List.set_cons_zero, List.set_cons_succ]
  refine reg_take (i := 8) (v := ?_) rfl (by kernel_rfl) (by kernel_rfl) (by kernel_rfl) (fun _ _ _ h => h) (Or.inl ⟨by kernel_rfl, ?_⟩) hS ?_
  rotate_left
  · (intro w' hSw; go_simp <;> with_reducible rfl)
  try simp only [List.getElem_toArray, List.getElem_cons_succ, List.getElem_cons_zero, Act.put, List.setIfInBounds_toArray, List.set_cons_zero, List.set_cons_succ]
  refine reg_take (i := 9) (v := ?_) rfl (by kernel_rfl) (by kernel_rfl) (by kernel_rfl) (fun _ _ _ h => h) (Or.inl ⟨by kernel_rfl, ?_⟩) hS ?_
  rotate_left
  · (intro w' hSw; go_simp <;> with_reducible rfl)
  try simp only [List.getElem_toArray, List.getElem_cons_succ, List.getElem_cons_zero, Act.put, List.setIfInBounds_toArray, List.set_cons_zero, List.set_cons_succ]
  refine reg_take (i := 10) (v := ?_) rfl (by kernel_rfl) (by kernel_rfl) (by kernel_rfl) (fun _ _ _ h => h) (Or.inl ⟨by kernel_rfl, ?_⟩) hS ?_
  rotate_left
  · (intro w' hSw; go_simp <;> with_reducible rfl)
  try simp only [List.getElem_toArray, List.getElem_cons_succ, List.getElem_cons_zero, Act.put, List.setIfInBounds_toArray, List.set_cons_zero, List.set_cons_succ]
  refine reg_take (i := 11) (v := ?_) rfl (by kernel_rfl) (by kernel_rfl) (by kernel_rfl) (fun _ _ _ h => h) (Or.inl ⟨by kernel_rfl, ?_⟩) hS ?_
  rotate_left
  · (intro w' hSw; go_simp <;> with_reducible rfl)
  try simp only [List.getElem_toArray, List.getElem_cons_succ, List.getElem_cons_zero, Act.put, List.setIfInBounds_toArray, List.set_cons_zero, List.set_cons_succ]
  refine reg_take (i := 12) (v := ?_) rfl (by kernel_rfl) (by kernel_rfl) (by kernel_rfl) (fun _ _ _ h => h) (Or.inl ⟨by kernel_rfl, ?_⟩) hS ?_
  rotate_left
  · (intro w' hSw; have u0 := (by obtain ⟨_, _, hq⟩ := hSw; have := H0.out.2.2.1 w' hq.own.bel m (by omega); rw [← HT.out.2] at this; exact this : w'.cell? ⟨b, off + m * 3, none⟩ = some (.int .i64 tm)); go_simp <;> with_reducible rfl)
  try simp only [List.getElem_toArray, List.getElem_cons_succ, List.getElem_cons_zero, Act.put, List.setIfInBounds_toArray, List.set_cons_zero, List.set_cons_succ]
  have u0 := HD.out.own.cell 1 0 rfl rfl
  refine reg_call (i := 0) rfl (by kernel_rfl) (fun K hK => ?_)
  have HK := Lib.hid hK
  clear hK
  go_simp
  go_wp2_with fail
  refine HK.out.to (fun w' => ∃ vf FF, TwoIs w0 xo xf (.slice A2 lo c2) vf (O ++ B) FF w') (fun _ h => h) (⟨_, _, HD.out⟩) ?_
  clear HK hS
  have hS : (fun w' => ∃ vf FF, TwoIs w0 xo xf (.slice A2 lo c2) vf (O ++ B) FF w') (wd) := ⟨_, _, HD.out⟩
  try simp only [List.getElem_toArray, List.getElem_cons_succ, List.getElem_cons_zero, Act.put, List.setIfInBounds_toArray, List.set_cons_zero, List.set_cons_succ]
  clear u0
  refine reg_call (i := 5) rfl (by kernel_rfl) (fun K hK => ?_)
  have HK := Lib.hid hK
  clear hK
  go_simp
  refine (V.putInt_any _ A4 l4 c4 F4 t0 H5.out.2.1 (by have := HD.out.f; rw [H5.out.2.1] at this; exact V.ow_sl this) hc4 (by omega) (by rw [HT.out.1]; exact (H0.out.2.2.2 0).1.1) (by rw [HT.out.1]; exact (H0.out.2.2.2 0).1.2)).mono ?_
  rintro e w6 ⟨v6, rfl, ho6, hb6⟩
  obtain ⟨F6, hF6⟩ : ∃ F6, F6 = F4 ++ V.vput (zig t0) := ⟨_, rfl⟩
  rw [← hF6] at ho6
  have hl6 : F6.length ≤ lf + 20 := by
    have := V.vput_len10 (u := zig t0) (zig_lt (by rw [HT.out.1]; exact (H0.out.2.2.2 0).1.1) (by rw [HT.out.1]; exact (H0.out.2.2.2 0).1.2))
    rw [hF6, List.length_append, H5.out.2.1]; omega
  obtain ⟨l6, hl6e⟩ : ∃ l, l = F6.length := ⟨_, rfl⟩
  rw [← hl6e] at ho6 hl6
  obtain ⟨A6, c6, hv6, hc6, -⟩ := own_form ho6
  subst hv6
  have H6 := Lib.hid (And.intro (HD.out.call hb6) (And.intro hF6 (And.intro hl6e.symm (V.ow_sl ho6))))
  clear ho6 hb6 hF6 hl6e
  go_wp2_with fail
  refine HK.out.to (fun w' => ∃ vf FF, TwoIs w0 xo xf (.slice A2 lo c2) vf (O ++ B) FF w') (fun _ h => h) (⟨_, _, H6.out.1⟩) ?_
  clear HK hS
  have hS : (fun w' => ∃ vf FF, TwoIs w0 xo xf (.slice A2 lo c2) vf (O ++ B) FF w') (w6) := ⟨_, _, H6.out.1⟩
  try simp only [List.getElem_toArray, List.getElem_cons_succ, List.getElem_cons_zero, Act.put, List.setIfInBounds_toArray, List.set_cons_zero, List.set_cons_succ]
  refine reg_call (i := 13) rfl (by kernel_rfl) (fun K hK => ?_)
  have HK := Lib.hid hK
  clear hK
  go_simp
  refine (V.putInt_any _ A6 l6 c6 F6 tm H6.out.2.2.1 H6.out.2.2.2 hc6 (by omega) (by rw [HT.out.2]; exact (H0.out.2.2.2 m).1.1) (by rw [HT.out.2]; exact (H0.out.2.2.2 m).1.2)).mono ?_
  rintro e w7 ⟨v7, rfl, ho7, hb7⟩
  obtain ⟨F7, hF7⟩ : ∃ F7, F7 = F6 ++ V.vput (zig tm) := ⟨_, rfl⟩
  rw [← hF7] at ho7
  have hl7 : F7.length ≤ lf + 30 := by
    have := V.vput_len10 (u := zig tm) (zig_lt (by rw [HT.out.2]; exact (H0.out.2.2.2 m).1.1) (by rw [HT.out.2]; exact (H0.out.2.2.2 m).1.2))
    rw [hF7, List.length_append, H6.out.2.2.1]; omega
  obtain ⟨A7, c7, hv7, hc7, -⟩ := own_form ho7
  subst hv7
  have h7 := H6.out.1.call hb7
  have z0 := h7.own.cell 1 0 rfl rfl
  have zf := h7.own.free 1 rfl
  have H7 := Lib.hid (And.intro h7 (And.intro (H6.out.1.foot hb7 ho7) hF7))
  clear ho7 hb7 hF7 h7
  go_wp2_with fail
  refine HK.out.to (fun w' => ∃ vf FF, TwoIs w0 xo xf (.slice A2 lo c2) vf (O ++ B) FF w') (fun _ h => h) (⟨_, _, H7.out.1⟩) ?_
  clear HK hS
  have hS : (fun w' => ∃ vf FF, TwoIs w0 xo xf (.slice A2 lo c2) vf (O ++ B) FF w') (w7) := ⟨_, _, H7.out.1⟩
  try simp only [List.getElem_toArray, List.getElem_cons_succ, List.getElem_cons_zero, Act.put, List.setIfInBounds_toArray, List.set_cons_zero, List.set_cons_succ]
  refine reg_call (i := 14) rfl (by kernel_rfl) (fun K hK => ?_)
  have HK := Lib.hid hK
  clear hK
  go_simp
  go_wp2_with fail
  refine HK.out.to (fun w' => ∃ vf FF, TwoIs w0 xo xf (.slice A2 lo c2) vf (O ++ B) FF w') (fun _ h => h) (⟨_, _, H7.out.2.1⟩) ?_
  clear HK hS
  have hS : (fun w' => ∃ vf FF, TwoIs w0 xo xf (.slice A2 lo c2) vf (O ++ B) FF w') (_) := ⟨_, _, H7.out.2.1⟩
  try simp only [List.getElem_toArray, List.getElem_cons_succ, List.getElem_cons_zero, Act.put, List.setIfInBounds_toArray, List.set_cons_zero, List.set_cons_succ]
  refine wpAnyH_done (by kernel_rfl) ?_ _
  try simp only [List.getElem_toArray, List.getElem_cons_succ, List.getElem_cons_zero]
  try simp only [List.getElem_toArray, List.getElem_cons_succ, List.getElem_cons_zero, Act.put, List.setIfInBounds_toArray, List.set_cons_zero, List.set_cons_succ]
  clear hS z0 zf
  go_upto_region 4 with (fail)
  refine wp_gen (TwoIs w0 xo xf (.slice A2 lo c2) (.slice A7 F7.length c7) (O ++ B) F7) H7.out.2.1 ?_
  intro w8 h8
  obtain ⟨l7, hl7e⟩ : ∃ l, l = F7.length := ⟨_, rfl⟩
  rw [← hl7e] at h8 hl7 hc7 ⊢
  have zc := h8.own.cell 1 0 rfl rfl
  have ku : IntKind.u64.wrap ((m : Int) + 1) = ((m : Int) + 1) := by rw [IntKind.wrap_u64]; omega
  have H8 := Lib.hid (And.intro h8 hl7e.symm)
  clear h8 hl7e
  go_wp2_with fail
  refine (V.vput_any _ A7 l7 c7 F7 ((m : Int) + 1) H8.out.2 (by have := H8.out.1.f; rw [H8.out.2] at this; exact V.ow_sl this) hc7 (by omega) (by omega) (by omega)).mono ?_
  rintro e w9 ⟨v9, rfl, ho9, hb9⟩
  rw [show ((m : Int) + 1).toNat = m + 1 by omega] at ho9
  obtain ⟨F9, hF9⟩ : ∃ F9, F9 = F7 ++ V.vput (m + 1) := ⟨_, rfl⟩
  rw [← hF9] at ho9
  have HF9 := Lib.hid hF9
  clear hF9
  obtain ⟨A9, c9, hv9, hc9, -⟩ := own_form ho9
  subst hv9
  have h9 := H8.out.1.own.call hb9
  have z0 := h9.cell 1 0 rfl rfl
  have zf := h9.free 1 rfl
  have T9 := H8.out.1.foot hb9 ho9
  have H9 := Lib.hid T9
  clear ho9 hb9 h9 zc ku T9
  go_wp2_with fail
  have e1 : O ++ (colL f (m + 1)).1 = O ++ B := by rw [H1.out.2.2.1]
  have e2 : FT ++ footB f (m + 1) = F9 := by
    unfold footB
    rw [HF9.out, H7.out.2.2, H6.out.2.1, H4.out.2, ← H1.out.2.2.1, ← HNB.out, HT.out.1, HT.out.2]
    simp only [List.append_assoc, Nat.add_sub_cancel]
  refine bodyPost_end (v := .tuple #[]) (by simp [results, Try.results12, go_sem]) rfl ?_
  unfold SCloPost
  rw [e1, e2]
  exact ⟨rfl, _, _, H9.out⟩
end Go.Proofs.Ytopbbicjbjmdnaa
