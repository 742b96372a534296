/-
  The contract of tidemillref06.Encode. (Printed by mk.py.)
-/
import Derived.Test.YtboecnakndpgfaaXorE
import Derived.Test.YtboecnakndpgfaaXorRef
import Derived.Test.YtboecnakndpgfaaBitsRy
namespace Go.Proofs.Ytboecnakndpgfaa.X
open Go.RowKit
set_option linter.unusedVariables false
set_option linter.unusedSimpArgs false
/-- The reference's writer. -/
structure RES (w : World) (x : Nat) (g : Option Nat) (L : List Nat) (wr : World) : Prop where
  out : RWr wr x g L
  keeps : Keeps (fun _ => False) w wr
  own : ∀ q, g = some q → w.heap.size ≤ q
  hx : w.heap.size ≤ x
def REPutPost (w : World) (x : Nat) (L : List Nat) (e : Ending) (w' : World) : Prop :=
  e = .returned (.int .i64 0) ∧ ∃ g, RES w x g L w'
theorem rput_es {w wr : World} {x : Nat} {g : Option Nat} {L : List Nat} (h : RES w x g L wr) (v n : Int) (h0 : 0 ≤ v) (hv : v < 18446744073709551616) (n0 : 0 ≤ n) (n64 : n ≤ 64) (hl : (L.length : Int) + 64 ≤ 8388608) :
    Calls Try.prog 30 #[.pointer (some ⟨x, 0, none⟩), .int .u64 v, .int .i64 n] wr (REPutPost w x (L ++ bitsTo v.toNat n.toNat n.toNat)) := by
  refine (rput_fit _ _ _ _ v n h.out h0 hv n0 n64 hl).mono ?_
  rintro e w2 ⟨rfl, g2, hx2, hk2, hm2⟩
  exact ⟨rfl, g2, hx2, keeps_new h.keeps hk2 h.hx h.own, moved_new (w0 := w) hm2 h.keeps.size h.own, h.hx⟩
theorem RES.drew {w wr : World} {x : Nat} {g : Option Nat} {L : List Nat} (h : RES w x g L wr) : RES w x g L wr.drew := ⟨h.out.drewN, h.keeps.drew, h.own, h.hx⟩
/-- The window in two variables. -/
def rwl (o : Option (Nat × Nat)) : Int := match o with
  | none => -1
  | some p => (p.1 : Nat)
def rwt (o : Option (Nat × Nat)) : Int := match o with
  | none => 0
  | some p => (p.2 : Nat)
set_option maxRecDepth 100000 in
set_option maxHeartbeats 2000000 in
theorem rxencode_any (w : World) (A : Option Addr) (len c : Nat) (D : Nat → Prop) (f : Nat → Nat) (hsl : Sl w D A len (fun j => .int .u64 (f j : Nat))) (hf : ∀ j, f j < 18446744073709551616) (hlen : len ≤ 4096) :
    Calls Try.prog 14 #[.slice A len c] w (XEncPost w (pack (xencTo f len))) := by
  have HS := Lib.hid (And.intro hsl hf)
  clear hsl hf
  have d0 : decide ((4096 : Int) < len) = false := by simp; omega
  go_enter Try.func14, Try.ntmps14
  go_wp2_with fail
  clear d0
  obtain ⟨x, hx⟩ : ∃ x, x = w.heap.size := ⟨_, rfl⟩
  have hy1 : RES w x none [] (w.alloc (.cells #[.slice none 0 0] 64)) := ⟨⟨by simp, by simp, .slice none 0 0, rfl, by rw [hx]; exact Blk.fresh _ _ _, ⟨by simp, .inl ⟨rfl, rfl⟩⟩⟩, (Keeps.refl _ _).alloc _, (fun _ h => by cases h), by omega⟩
  have H1 := Lib.hid hy1
  rw [← hx]
  clear hx hy1
  go_loopw [5, 6, 7] (fun l t i wr => ∃ (k : Nat) (g : Option Nat), k ≤ len ∧ i = .int .i64 k ∧ l = .int .i64 (rwl (xwin f k)) ∧ t = .int .i64 (rwt (xwin f k)) ∧ RES w x g (xencTo f k) wr)
    (fun _ _ i _ => len - (intOf i).toNat)
  case atStart => exact ⟨0, none, Nat.zero_le _, rfl, rfl, rfl, H1.out⟩
  case round =>
    obtain ⟨k, g, hk, rfl, rfl, rfl, hes⟩ := hrel
    by_cases hlt : k < len
    · obtain ⟨b, off, hA, hD, hcell⟩ := (HS.out.1.keep (w' := wr) (fun q _ hq => hes.keeps.block q hq (fun h => h))) (by omega)
      have ck : wr.cell? ⟨b, off + k, none⟩ = some (.int .u64 (f k : Nat)) := hcell k hlt
      have hcp : 1 ≤ k → wr.cell? ⟨b, off + (k - 1), none⟩ = some (.int .u64 (f (k - 1) : Nat)) := fun h => hcell (k - 1) (by omega)
      subst hA
      have HE := Lib.hid hes
      clear hes hcell
      have hlk := xencTo_len f k
      rcases Nat.eq_zero_or_pos k with hk0 | hk0
      · subst hk0
        clear hcp hlk
        have hu := HS.out.2 0
        obtain ⟨u, hu'⟩ : ∃ u, u = f 0 := ⟨_, rfl⟩
        rw [← hu'] at ck hu
        have HU := Lib.hid (And.intro hu hu')
        clear hu hu'
        rw [show ((0 : Nat) : Int) = 0 from rfl]
        rw [Nat.add_zero] at ck
        go_wp2_with fail
        refine (rput_es HE.out (u : Nat) 64 (by omega) (by have := HU.out.1; omega) (by omega) (by omega) (by simp [xencTo])).mono ?_
        rintro e w3 ⟨rfl, g3, hes3⟩
        have H3 := Lib.hid hes3
        clear hes3 ck
        go_wp2_with fail
        go_roundw
        case rel =>
          refine ⟨1, g3, by omega, rfl, rfl, rfl, ?_⟩
          have := H3.out
          rw [show ((u : Int)).toNat = u from rfl, show (64 : Int).toNat = 64 from rfl, HU.out.2] at this
          exact this
        case measure => simp [intOf]; omega
      · obtain ⟨j, rfl⟩ : ∃ j, k = j + 1 := ⟨k - 1, by omega⟩
        have cp := hcp (by omega)
        rw [show j + 1 - 1 = j by omega] at cp
        obtain ⟨a, ha⟩ : ∃ a, a = f (j + 1) := ⟨_, rfl⟩
        obtain ⟨p, hp⟩ : ∃ p, p = f j := ⟨_, rfl⟩
        obtain ⟨q, hq⟩ : ∃ q, q = a ^^^ p := ⟨_, rfl⟩
        have r1 := HS.out.2 (j + 1)
        have r2 := HS.out.2 j
        rw [← ha] at ck r1
        rw [← hp] at cp r2
        have hqx : bits .xor .u64 (a : Int) (p : Int) = (q : Int) := by rw [u64_xor_nat _ _ r1 r2, hq]
        have hql : q < 18446744073709551616 := by rw [hq]; exact xor_lt r1 r2
        obtain ⟨L, hL⟩ : ∃ L, L = xencTo f (j + 1) := ⟨_, rfl⟩
        obtain ⟨o, ho⟩ : ∃ o, o = xwin f (j + 1) := ⟨_, rfl⟩
        have hok : WinOk o := by rw [ho]; exact xwin_ok HS.out.2 _
        have hes := HE.out
        rw [← hL] at hes
        rw [← ho]
        rw [← hL] at hlk
        have hfin : ∀ k', k' = j + 2 → xencTo f k' = L ++ xbits o q ∧ xwin f k' = nextW o q := by
          rintro k' rfl; rw [hL, ho, hq, ha, hp]; exact ⟨rfl, rfl⟩
        clear HE
        have HE := Lib.hid (And.intro hes (And.intro hql (And.intro hok hfin)))
        have HC := Lib.hid (And.intro ck cp)
        clear hes hql hok hfin hL ho hq ha hp r1 r2 hcp hk0 ck cp
        have hjl : (j : Int) < (len : Int) := by omega
        have ejw : IntKind.i64.wrap ((j : Int) + 1 - 1) = (j : Int) := by rw [IntWalk.i64_in _ (by omega)]; omega
        have ejw2 : (j : Int) + 1 - 1 = (j : Int) := by omega
        have hj1 : (j : Int) + 1 < (len : Int) := by omega
        have hj0 : (0 : Int) ≤ (j : Int) + 1 := by omega
        have ejw3 : IntKind.i64.wrap (j : Int) = (j : Int) := IntWalk.i64_in _ (by omega)
        have ejw4 : ((j : Int)).toNat = j := by omega
        have hj2 : (0 : Int) ≤ (j : Int) := by omega
        rw [show ((j + 1 : Nat) : Int) = (j : Int) + 1 from rfl]
        obtain ⟨l, hl⟩ : ∃ l, l = rwl o := ⟨_, rfl⟩
        obtain ⟨t, ht⟩ : ∃ t, t = rwt o := ⟨_, rfl⟩
        rw [← hl, ← ht]
        have HL := Lib.hid (And.intro hl ht)
        clear hl ht
        go_wp2_with fail
        have hS : (fun w' : World => w'.cell? ⟨b, off + (j + 1), none⟩ = some (.int .u64 (a : Nat)) ∧ w'.cell? ⟨b, off + j, none⟩ = some (.int .u64 (p : Nat))) (wr.drew) := HC.out
        refine reg_start (fun w' : World => w'.cell? ⟨b, off + (j + 1), none⟩ = some (.int .u64 (a : Nat)) ∧ w'.cell? ⟨b, off + j, none⟩ = some (.int .u64 (p : Nat))) (by kernel_rfl) hS ?_
        refine reg_take (i := 0) (v := ?_) rfl (by kernel_rfl) (by kernel_rfl) (by kernel_rfl) (fun _ _ _ h => h) (Or.inl ⟨by kernel_rfl, ?_⟩) hS ?_
        rotate_left
        · (intro w' hSw; obtain ⟨c0, c1⟩ := hSw; go_simp <;> with_reducible rfl)
        try simp only [List.getElem_toArray, List.getElem_cons_succ, List.getElem_cons_zero, Act.put, List.setIfInBounds_toArray, List.set_cons_zero, List.set_cons_succ]
        refine reg_take (i := 1) (v := ?_) rfl (by kernel_rfl) (by kernel_rfl) (by kernel_rfl) (fun _ _ _ h => h) (Or.inl ⟨by kernel_rfl, ?_⟩) hS ?_
        rotate_left
        · (intro w' hSw; obtain ⟨c0, c1⟩ := hSw; go_simp <;> with_reducible rfl)
        try simp only [List.getElem_toArray, List.getElem_cons_succ, List.getElem_cons_zero, Act.put, List.setIfInBounds_toArray, List.set_cons_zero, List.set_cons_succ]
        refine reg_take (i := 2) (v := ?_) rfl (by kernel_rfl) (by kernel_rfl) (by kernel_rfl) (fun _ _ _ h => h) (Or.inl ⟨by kernel_rfl, ?_⟩) hS ?_
        rotate_left
        · (intro w' hSw; obtain ⟨c0, c1⟩ := hSw; go_simp <;> with_reducible rfl)
        try simp only [List.getElem_toArray, List.getElem_cons_succ, List.getElem_cons_zero, Act.put, List.setIfInBounds_toArray, List.set_cons_zero, List.set_cons_succ]
        refine reg_take (i := 3) (v := ?_) rfl (by kernel_rfl) (by kernel_rfl) (by kernel_rfl) (fun _ _ _ h => h) (Or.inl ⟨by kernel_rfl, ?_⟩) hS ?_
        rotate_left
        · (intro w' hSw; obtain ⟨c0, c1⟩ := hSw; go_simp <;> with_reducible rfl)
        try simp only [List.getElem_toArray, List.getElem_cons_succ, List.getElem_cons_zero, Act.put, List.setIfInBounds_toArray, List.set_cons_zero, List.set_cons_succ]
        refine reg_take (i := 4) (v := ?_) rfl (by kernel_rfl) (by kernel_rfl) (by kernel_rfl) (fun _ _ _ h => h) (Or.inl ⟨by kernel_rfl, ?_⟩) hS ?_
        rotate_left
        · (intro w' hSw; obtain ⟨c0, c1⟩ := hSw; go_simp <;> with_reducible rfl)
        try simp only [List.getElem_toArray, List.getElem_cons_succ, List.getElem_cons_zero, Act.put, List.setIfInBounds_toArray, List.set_cons_zero, List.set_cons_succ]
        refine reg_take (i := 5) (v := ?_) rfl (by kernel_rfl) (by kernel_rfl) (by kernel_rfl) (fun _ _ _ h => h) (Or.inl ⟨by kernel_rfl, ?_⟩) hS ?_
        rotate_left
        · (intro w' hSw; obtain ⟨c0, c1⟩ := hSw; go_simp <;> with_reducible rfl)
        try simp only [List.getElem_toArray, List.getElem_cons_succ, List.getElem_cons_zero, Act.put, List.setIfInBounds_toArray, List.set_cons_zero, List.set_cons_succ]
        refine reg_take (i := 6) (v := ?_) rfl (by kernel_rfl) (by kernel_rfl) (by kernel_rfl) (fun _ _ _ h => h) (Or.inl ⟨by kernel_rfl, ?_⟩) hS ?_
        rotate_left
        · (intro w' hSw; obtain ⟨c0, c1⟩ := hSw; go_simp <;> with_reducible rfl)
        try simp only [List.getElem_toArray, List.getElem_cons_succ, List.getElem_cons_zero, Act.put, List.setIfInBounds_toArray, List.set_cons_zero, List.set_cons_succ]
        refine reg_take (i := 7) (v := ?_) rfl (by kernel_rfl) (by kernel_rfl) (by kernel_rfl) (fun _ _ _ h => h) (Or.inl ⟨by kernel_rfl, ?_⟩) hS ?_
        rotate_left
        · (intro w' hSw; obtain ⟨c0, c1⟩ := hSw; go_simp <;> with_reducible rfl)
        try simp only [List.getElem_toArray, List.getElem_cons_succ, List.getElem_cons_zero, Act.put, List.setIfInBounds_toArray, List.set_cons_zero, List.set_cons_succ]
        refine reg_take (i := 8) (v := ?_) rfl (by kernel_rfl) (by kernel_rfl) (by kernel_rfl) (fun _ _ _ h => h) (Or.inl ⟨by kernel_rfl, ?_⟩) hS ?_
        rotate_left
        · (intro w' hSw; obtain ⟨c0, c1⟩ := hSw; go_simp <;> with_reducible rfl)
        try simp only [List.getElem_toArray, List.getElem_cons_succ, List.getElem_cons_zero, Act.put, List.setIfInBounds_toArray, List.set_cons_zero, List.set_cons_succ]
        refine reg_take (i := 9) (v := ?_) rfl (by kernel_rfl) (by kernel_rfl) (by kernel_rfl) (fun _ _ _ h => h) (Or.inl ⟨by kernel_rfl, ?_⟩) hS ?_
        rotate_left
        · (intro w' hSw; go_simp <;> with_reducible rfl)
        try simp only [List.getElem_toArray, List.getElem_cons_succ, List.getElem_cons_zero, Act.put, List.setIfInBounds_toArray, List.set_cons_zero, List.set_cons_succ]
        refine reg_take (i := 10) (v := ?_) rfl (by kernel_rfl) (by kernel_rfl) (by kernel_rfl) (fun _ _ _ h => h) (Or.inl ⟨by kernel_rfl, ?_⟩) hS ?_
        rotate_left
        · (intro w' hSw; go_simp <;> with_reducible rfl)
        try simp only [List.getElem_toArray, List.getElem_cons_succ, List.getElem_cons_zero, Act.put, List.setIfInBounds_toArray, List.set_cons_zero, List.set_cons_succ]
        refine wpAnyH_done (by kernel_rfl) ?_ _
        try simp only [List.getElem_toArray, List.getElem_cons_succ, List.getElem_cons_zero]
        try simp only [List.getElem_toArray, List.getElem_cons_succ, List.getElem_cons_zero, Act.put, List.setIfInBounds_toArray, List.set_cons_zero, List.set_cons_succ]
        by_cases h0 : q = 0
        · subst h0
          clear hqx
          rw [show ((0 : Nat) : Int) = 0 from rfl]
          go_wp2_with fail
          refine (rput_es HE.out.1.drew 0 1 (by omega) (by omega) (by omega) (by omega) (by omega)).mono ?_
          rintro e w3 ⟨rfl, g3, hes3⟩
          have H3 := Lib.hid hes3
          clear hes3
          go_wp2_with fail
          go_roundw
          case rel =>
            obtain ⟨e1, e2⟩ := HE.out.2.2.2 (j + 2) rfl
            have e2' : xwin f (j + 2) = o := e2
            refine ⟨j + 2, g3, by omega, by go_num, by rw [e2', HL.out.1], by rw [e2', HL.out.2], ?_⟩
            rw [e1]
            exact H3.out
          case measure => simp [intOf]; omega
        · have dq : ((q : Int) == 0) = false := by simp [h0]
          have HQ := Lib.hid h0
          clear h0
          go_wp2_with fail
          refine (rlead_any q HE.out.2.1 _).mono ?_
          rintro e w3 ⟨rfl, rfl⟩
          go_wp2_with fail
          refine (rtrail_any q HE.out.2.1 _).mono ?_
          rintro e w3 ⟨rfl, rfl⟩
          obtain ⟨m, hm⟩ : ∃ m, m = lead q := ⟨_, rfl⟩
          obtain ⟨n, hn⟩ : ∃ n, n = trail q := ⟨_, rfl⟩
          rw [← hm, ← hn]
          have HM := Lib.hid (And.intro hm (And.intro hn HE.out.1.drew))
          clear hm hn hqx dq ejw ejw2 hj1 hj0 ejw3 ejw4 hj2
          obtain ⟨hl, ht⟩ := HL.out
          clear HL
          cases o with
          | none =>
            subst hl ht
            have HF := Lib.hid (show fits none q = false from rfl)
            unfold rwl rwt
            have hwl := window_le (u := q) (by have := HQ.out; omega) HE.out.2.1
            rw [← HM.out.1, ← HM.out.2.1] at hwl
            have ew : IntKind.u64.wrap (m : Int) = (m : Int) := by rw [IntKind.wrap_u64]; omega
            obtain ⟨s, hs⟩ : ∃ s, s = 64 - m - n := ⟨_, rfl⟩
            have ew3 : (64 : Int) - m - n = (s : Int) := by omega
            have hs1 : 1 ≤ s := by omega
            have hs64 : s ≤ 64 := by omega
            have ew2 : IntKind.u64.wrap ((s : Int) - 1) = ((s - 1 : Nat) : Int) := by rw [IntKind.wrap_u64]; omega
            have HSS := Lib.hid hs
            clear hs
            go_wp2_with fail
            refine (rput_es HM.out.2.2 3 2 (by omega) (by omega) (by omega) (by omega) (by omega)).mono ?_
            rintro e w5 ⟨rfl, g5, hes5⟩
            have H5 := Lib.hid hes5
            clear hes5
            go_wp2_with fail
            refine (rput_es H5.out (m : Nat) 6 (by omega) (by omega) (by omega) (by omega) (by simp only [List.length_append, bitsTo_length]; omega)).mono ?_
            rintro e w6 ⟨rfl, g6, hes6⟩
            have H6 := Lib.hid hes6
            clear hes6
            go_wp2_with fail
            refine (rput_es H6.out ((s - 1 : Nat) : Int) 6 (by omega) (by omega) (by omega) (by omega) (by simp only [List.length_append, bitsTo_length]; omega)).mono ?_
            rintro e w7 ⟨rfl, g7, hes7⟩
            have H7 := Lib.hid hes7
            clear hes7
            have hn63 : n ≤ 63 := by omega
            have hn64 : n < 64 := by omega
            obtain ⟨v, hv⟩ : ∃ v, v = q / 2 ^ n := ⟨_, rfl⟩
            have hvi : (q : Int) / 2 ^ n = (v : Int) := by rw [hv, div_cast]
            have hvl : v < 18446744073709551616 := by rw [hv]; exact Nat.lt_of_le_of_lt (Nat.div_le_self _ _) HE.out.2.1
            have HV := Lib.hid (And.intro hv hvl)
            clear hv hvl
            go_wp2_with fail
            refine (rput_es H7.out (v : Nat) (s : Nat) (by omega) (by have := HV.out.2; omega) (by omega) (by omega) (by simp only [List.length_append, bitsTo_length]; omega)).mono ?_
            rintro e w8 ⟨rfl, g8, hes8⟩
            have H8 := Lib.hid hes8
            clear hes8
            go_wp2_with fail
            go_roundw
            case rel =>
              obtain ⟨e1, e2⟩ := HE.out.2.2.2 (j + 2) rfl
              obtain ⟨e3, e4⟩ := xbits_new HQ.out HF.out
              rw [← HM.out.1, ← HM.out.2.1] at e3 e4
              refine ⟨j + 2, g8, by omega, by go_num, by rw [e2, e4]; rfl, by rw [e2, e4]; rfl, ?_⟩
              rw [e1, e3, ← List.append_assoc, ← List.append_assoc, ← List.append_assoc]
              have := H8.out
              rw [HV.out.1, HSS.out] at this
              exact this
            case measure => simp [intOf]; omega
          | some pr =>
            obtain ⟨l', t'⟩ := pr
            obtain rfl : l = (l' : Int) := hl
            obtain rfl : t = (t' : Int) := ht
            have hfd : fits (some (l', t')) q = (decide (l' ≤ m) && decide (t' ≤ n)) := by rw [HM.out.1, HM.out.2.1]; rfl
            by_cases h1 : l' ≤ m
            · by_cases h2 : t' ≤ n
              · have HF := Lib.hid (show fits (some (l', t')) q = true by rw [hfd]; simp [h1, h2])
                clear hfd
                have hwl : l' + t' ≤ 63 := HE.out.2.2.1 (l', t') rfl
                obtain ⟨s, hs⟩ : ∃ s, s = 64 - l' - t' := ⟨_, rfl⟩
                have ew3 : (64 : Int) - l' - t' = (s : Int) := by omega
                have hs1 : 1 ≤ s := by omega
                have hs64 : s ≤ 64 := by omega
                have HSS := Lib.hid hs
                clear hs
                go_wp2_with fail
                refine (rput_es HM.out.2.2 2 2 (by omega) (by omega) (by omega) (by omega) (by omega)).mono ?_
                rintro e w7 ⟨rfl, g7, hes7⟩
                have H7 := Lib.hid hes7
                clear hes7
                have hn63 : t' ≤ 63 := by omega
                have hn64 : t' < 64 := by omega
                obtain ⟨v, hv⟩ : ∃ v, v = q / 2 ^ t' := ⟨_, rfl⟩
                have hvi : (q : Int) / 2 ^ t' = (v : Int) := by rw [hv, div_cast]
                have hvl : v < 18446744073709551616 := by rw [hv]; exact Nat.lt_of_le_of_lt (Nat.div_le_self _ _) HE.out.2.1
                have HV := Lib.hid (And.intro hv hvl)
                clear hv hvl
                go_wp2_with fail
                refine (rput_es H7.out (v : Nat) (s : Nat) (by omega) (by have := HV.out.2; omega) (by omega) (by omega) (by simp only [List.length_append, bitsTo_length]; omega)).mono ?_
                rintro e w8 ⟨rfl, g8, hes8⟩
                have H8 := Lib.hid hes8
                clear hes8
                go_wp2_with fail
                go_roundw
                case rel =>
                  obtain ⟨e1, e2⟩ := HE.out.2.2.2 (j + 2) rfl
                  obtain ⟨e3, e4⟩ := xbits_old HQ.out HF.out
                  refine ⟨j + 2, g8, by omega, by go_num, by rw [e2, e4]; rfl, by rw [e2, e4]; rfl, ?_⟩
                  rw [e1, e3, ← List.append_assoc]
                  have := H8.out
                  rw [HV.out.1, HSS.out] at this
                  exact this
                case measure => simp [intOf]; omega
              · have HF := Lib.hid (show fits (some (l', t')) q = false by rw [hfd]; simp [h2])
                clear hfd
                have hwl := window_le (u := q) (by have := HQ.out; omega) HE.out.2.1
                rw [← HM.out.1, ← HM.out.2.1] at hwl
                have ew : IntKind.u64.wrap (m : Int) = (m : Int) := by rw [IntKind.wrap_u64]; omega
                obtain ⟨s, hs⟩ : ∃ s, s = 64 - m - n := ⟨_, rfl⟩
                have ew3 : (64 : Int) - m - n = (s : Int) := by omega
                have hs1 : 1 ≤ s := by omega
                have hs64 : s ≤ 64 := by omega
                have ew2 : IntKind.u64.wrap ((s : Int) - 1) = ((s - 1 : Nat) : Int) := by rw [IntKind.wrap_u64]; omega
                have HSS := Lib.hid hs
                clear hs
                go_wp2_with fail
                refine (rput_es HM.out.2.2 3 2 (by omega) (by omega) (by omega) (by omega) (by omega)).mono ?_
                rintro e w5 ⟨rfl, g5, hes5⟩
                have H5 := Lib.hid hes5
                clear hes5
                go_wp2_with fail
                refine (rput_es H5.out (m : Nat) 6 (by omega) (by omega) (by omega) (by omega) (by simp only [List.length_append, bitsTo_length]; omega)).mono ?_
                rintro e w6 ⟨rfl, g6, hes6⟩
                have H6 := Lib.hid hes6
                clear hes6
                go_wp2_with fail
                refine (rput_es H6.out ((s - 1 : Nat) : Int) 6 (by omega) (by omega) (by omega) (by omega) (by simp only [List.length_append, bitsTo_length]; omega)).mono ?_
                rintro e w7 ⟨rfl, g7, hes7⟩
                have H7 := Lib.hid hes7
                clear hes7
                have hn63 : n ≤ 63 := by omega
                have hn64 : n < 64 := by omega
                obtain ⟨v, hv⟩ : ∃ v, v = q / 2 ^ n := ⟨_, rfl⟩
                have hvi : (q : Int) / 2 ^ n = (v : Int) := by rw [hv, div_cast]
                have hvl : v < 18446744073709551616 := by rw [hv]; exact Nat.lt_of_le_of_lt (Nat.div_le_self _ _) HE.out.2.1
                have HV := Lib.hid (And.intro hv hvl)
                clear hv hvl
                go_wp2_with fail
                refine (rput_es H7.out (v : Nat) (s : Nat) (by omega) (by have := HV.out.2; omega) (by omega) (by omega) (by simp only [List.length_append, bitsTo_length]; omega)).mono ?_
                rintro e w8 ⟨rfl, g8, hes8⟩
                have H8 := Lib.hid hes8
                clear hes8
                go_wp2_with fail
                go_roundw
                case rel =>
                  obtain ⟨e1, e2⟩ := HE.out.2.2.2 (j + 2) rfl
                  obtain ⟨e3, e4⟩ := xbits_new HQ.out HF.out
                  rw [← HM.out.1, ← HM.out.2.1] at e3 e4
                  refine ⟨j + 2, g8, by omega, by go_num, by rw [e2, e4]; rfl, by rw [e2, e4]; rfl, ?_⟩
                  rw [e1, e3, ← List.append_assoc, ← List.append_assoc, ← List.append_assoc]
                  have := H8.out
                  rw [HV.out.1, HSS.out] at this
                  exact this
                case measure => simp [intOf]; omega
            · have HF := Lib.hid (show fits (some (l', t')) q = false by rw [hfd]; simp [h1])
              clear hfd
              have hwl := window_le (u := q) (by have := HQ.out; omega) HE.out.2.1
              rw [← HM.out.1, ← HM.out.2.1] at hwl
              have ew : IntKind.u64.wrap (m : Int) = (m : Int) := by rw [IntKind.wrap_u64]; omega
              obtain ⟨s, hs⟩ : ∃ s, s = 64 - m - n := ⟨_, rfl⟩
              have ew3 : (64 : Int) - m - n = (s : Int) := by omega
              have hs1 : 1 ≤ s := by omega
              have hs64 : s ≤ 64 := by omega
              have ew2 : IntKind.u64.wrap ((s : Int) - 1) = ((s - 1 : Nat) : Int) := by rw [IntKind.wrap_u64]; omega
              have HSS := Lib.hid hs
              clear hs
              go_wp2_with fail
              refine (rput_es HM.out.2.2 3 2 (by omega) (by omega) (by omega) (by omega) (by omega)).mono ?_
              rintro e w5 ⟨rfl, g5, hes5⟩
              have H5 := Lib.hid hes5
              clear hes5
              go_wp2_with fail
              refine (rput_es H5.out (m : Nat) 6 (by omega) (by omega) (by omega) (by omega) (by simp only [List.length_append, bitsTo_length]; omega)).mono ?_
              rintro e w6 ⟨rfl, g6, hes6⟩
              have H6 := Lib.hid hes6
              clear hes6
              go_wp2_with fail
              refine (rput_es H6.out ((s - 1 : Nat) : Int) 6 (by omega) (by omega) (by omega) (by omega) (by simp only [List.length_append, bitsTo_length]; omega)).mono ?_
              rintro e w7 ⟨rfl, g7, hes7⟩
              have H7 := Lib.hid hes7
              clear hes7
              have hn63 : n ≤ 63 := by omega
              have hn64 : n < 64 := by omega
              obtain ⟨v, hv⟩ : ∃ v, v = q / 2 ^ n := ⟨_, rfl⟩
              have hvi : (q : Int) / 2 ^ n = (v : Int) := by rw [hv, div_cast]
              have hvl : v < 18446744073709551616 := by rw [hv]; exact Nat.lt_of_le_of_lt (Nat.div_le_self _ _) HE.out.2.1
              have HV := Lib.hid (And.intro hv hvl)
              clear hv hvl
              go_wp2_with fail
              refine (rput_es H7.out (v : Nat) (s : Nat) (by omega) (by have := HV.out.2; omega) (by omega) (by omega) (by simp only [List.length_append, bitsTo_length]; omega)).mono ?_
              rintro e w8 ⟨rfl, g8, hes8⟩
              have H8 := Lib.hid hes8
              clear hes8
              go_wp2_with fail
              go_roundw
              case rel =>
                obtain ⟨e1, e2⟩ := HE.out.2.2.2 (j + 2) rfl
                obtain ⟨e3, e4⟩ := xbits_new HQ.out HF.out
                rw [← HM.out.1, ← HM.out.2.1] at e3 e4
                refine ⟨j + 2, g8, by omega, by go_num, by rw [e2, e4]; rfl, by rw [e2, e4]; rfl, ?_⟩
                rw [e1, e3, ← List.append_assoc, ← List.append_assoc, ← List.append_assoc]
                have := H8.out
                rw [HV.out.1, HSS.out] at this
                exact this
              case measure => simp [intOf]; omega
    · obtain rfl : k = len := by omega
      have HR := Lib.hid (And.intro hes.out hes.keeps)
      clear hes
      go_wp2_with fail
      refine (bytes_rwr _ _ _ _ HR.out.1).mono ?_
      rintro e w3 ⟨A2, c2, rfl, ho2, hk2⟩
      have H3 := Lib.hid (And.intro (own_base ho2 HR.out.2.size) (HR.out.2.trans' hk2))
      clear ho2 hk2
      go_wp2_with fail
      go_ret2
      exact ⟨A2, c2, rfl, H3.out.1, H3.out.2⟩
end Go.Proofs.Ytboecnakndpgfaa.X
