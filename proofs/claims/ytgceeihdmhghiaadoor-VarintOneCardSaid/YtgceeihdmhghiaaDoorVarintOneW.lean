/-
  The walk of the law VarintOne. (Printed by mk.py.)
-/
import Derived.Test.YtgceeihdmhghiaaDoorErD
import Derived.Test.YtgceeihdmhghiaaDoorLat
namespace Go.Proofs.YtgceeihdmhghiaaDoor
open Go.RowKit
set_option linter.unusedVariables false
set_option linter.unusedSimpArgs false
theorem vget_300 : vget [172, 2] = (300, 2, 0) := by decide
set_option maxRecDepth 100000 in
set_option maxHeartbeats 4000000 in
theorem varintOne_walk (a0 : Option Addr) (len0 cap0 : Nat) (z0 : List Int) (w : World) (w0 : IsRow .u8 w a0 len0 cap0 z0) (hv : HErr w) :
    Calls Tryd.prog 3 #[.slice a0 len0 cap0] w fun e w' => e = .returned (.bool true) ∧ Below w.heap.size w w' := by
  obtain ⟨bs, hbl, hbb, hbs⟩ := w0.bytes len0 (Nat.le_refl _)
  have l0 := w0.le
  have hlc := l0.1
  have hcm : cap0 ≤ 9223372036854775807 := by
    rcases w0 with ⟨_, _, h, _⟩ | ⟨x, _, _, h, _⟩
    · omega
    · unfold maxLen at h; omega
  clear w0
  have HS := Lib.hid (And.intro hbl (And.intro hbb (And.intro hbs hv)))
  clear hbl hbb hbs hv l0
  go_enter Tryd.func3, Tryd.ntmps3
  go_wp2_with fail
  refine (vread_any w _ _ _ _ bs HS.out.1 HS.out.2.1 HS.out.2.2.1 (by omega) HS.out.2.2.2).mono ?_
  rintro e w1 ⟨rfl, hb1⟩
  have hvl := vget_lt bs
  have hve := vget_e bs
  have hvp := vget_put HS.out.2.1
  obtain ⟨u, hu⟩ : ∃ u, u = (vget bs).1 := ⟨_, rfl⟩
  obtain ⟨n, hn⟩ : ∃ n, n = (vget bs).2.1 := ⟨_, rfl⟩
  obtain ⟨k, hk⟩ : ∃ k, k = (vget bs).2.2 := ⟨_, rfl⟩
  rw [← hu, ← hn, ← hk] at hve hvp
  rw [← hu, ← hn] at hvl
  rw [← hu, ← hn, ← hk]
  have HU := Lib.hid (And.intro hb1 (And.intro hvp hvl))
  clear hu hn hk hb1 hvp hvl
  by_cases h0 : k = 0
  · subst h0
    clear hve
    obtain ⟨p1, p2, p3⟩ := HU.out.2.1 rfl
    have hl := HS.out.1
    obtain ⟨b, off, rfl, hblt, -⟩ := HS.out.2.2.1 (by omega)
    have hs1 := sl_take_list (sl_later HS.out.2.2.1 HU.out.1) (show n ≤ len0 by omega)
    have hpl : (bs.take n).length = n := by rw [List.length_take]; omega
    obtain ⟨P, hP⟩ : ∃ P, P = bs.take n := ⟨_, rfl⟩
    rw [← hP] at hs1 p3 hpl
    have HT := Lib.hid (And.intro hs1 (And.intro p3 hpl))
    have hn1 : (1 : Int) ≤ (n : Int) := by omega
    have hn2 : (n : Int) ≤ (len0 : Int) := by omega
    have hn3 : n ≤ cap0 := by omega
    clear hs1 p3 hblt hP hpl hl
    go_wp2_with fail
    have hS : (fun w' : World => Sl w' (fun q => q < w1.heap.size) (some ⟨b, off, none⟩) n (byteC P)) (w1.drew) := HT.out.1
    refine reg_start (fun w' : World => Sl w' (fun q => q < w1.heap.size) (some ⟨b, off, none⟩) n (byteC P)) (by kernel_rfl) hS ?_
    refine reg_take (i := 0) (v := ?_) rfl (by kernel_rfl) (by kernel_rfl) (by kernel_rfl) (fun _ _ _ h => h) (Or.inl ⟨by kernel_rfl, ?_⟩) hS ?_
    rotate_left
    · (intro w' hSw; go_simp <;> with_reducible rfl)
    try simp only [List.getElem_toArray, List.getElem_cons_succ, List.getElem_cons_zero, Act.put, List.setIfInBounds_toArray, List.set_cons_zero, List.set_cons_succ]
    refine reg_take (i := 1) (v := ?_) rfl (by kernel_rfl) (by kernel_rfl) (by kernel_rfl) (fun _ _ _ h => h) (Or.inl ⟨by kernel_rfl, ?_⟩) hS ?_
    rotate_left
    · (intro w' hSw; go_simp <;> with_reducible rfl)
    try simp only [List.getElem_toArray, List.getElem_cons_succ, List.getElem_cons_zero, Act.put, List.setIfInBounds_toArray, List.set_cons_zero, List.set_cons_succ]
    refine reg_take (i := 2) (v := ?_) rfl (by kernel_rfl) (by kernel_rfl) (by kernel_rfl) (fun _ _ _ h => h) (Or.inl ⟨by kernel_rfl, ?_⟩) hS ?_
    rotate_left
    · (intro w' hSw; go_simp <;> with_reducible rfl)
    try simp only [List.getElem_toArray, List.getElem_cons_succ, List.getElem_cons_zero, Act.put, List.setIfInBounds_toArray, List.set_cons_zero, List.set_cons_succ]
    refine reg_take (i := 3) (v := ?_) rfl (by kernel_rfl) (by kernel_rfl) (by kernel_rfl) (fun _ _ _ h => h) (Or.inl ⟨by kernel_rfl, ?_⟩) hS ?_
    rotate_left
    · (intro w' hSw; go_simp <;> with_reducible rfl)
    try simp only [List.getElem_toArray, List.getElem_cons_succ, List.getElem_cons_zero, Act.put, List.setIfInBounds_toArray, List.set_cons_zero, List.set_cons_succ]
    refine reg_take (i := 4) (v := ?_) rfl (by kernel_rfl) (by kernel_rfl) (by kernel_rfl) (fun _ _ _ h => h) (Or.inl ⟨by kernel_rfl, ?_⟩) hS ?_
    rotate_left
    · (intro w' hSw; go_simp <;> with_reducible rfl)
    try simp only [List.getElem_toArray, List.getElem_cons_succ, List.getElem_cons_zero, Act.put, List.setIfInBounds_toArray, List.set_cons_zero, List.set_cons_succ]
    refine reg_take (i := 5) (v := ?_) rfl (by kernel_rfl) (by kernel_rfl) (by kernel_rfl) (fun _ _ _ h => h) (Or.inl ⟨by kernel_rfl, ?_⟩) hS ?_
    rotate_left
    · (intro w' hSw; go_simp <;> with_reducible rfl)
    try simp only [List.getElem_toArray, List.getElem_cons_succ, List.getElem_cons_zero, Act.put, List.setIfInBounds_toArray, List.set_cons_zero, List.set_cons_succ]
    refine reg_take (i := 6) (v := ?_) rfl (by kernel_rfl) (by kernel_rfl) (by kernel_rfl) (fun _ _ _ h => h) (Or.inl ⟨by kernel_rfl, ?_⟩) hS ?_
    rotate_left
    · (intro w' hSw; go_simp <;> with_reducible rfl)
    try simp only [List.getElem_toArray, List.getElem_cons_succ, List.getElem_cons_zero, Act.put, List.setIfInBounds_toArray, List.set_cons_zero, List.set_cons_succ]
    refine reg_take (i := 7) (v := ?_) rfl (by kernel_rfl) (by kernel_rfl) (by kernel_rfl) (fun _ _ _ h => h) (Or.inl ⟨by kernel_rfl, ?_⟩) hS ?_
    rotate_left
    · (intro w' hSw; go_simp <;> with_reducible rfl)
    try simp only [List.getElem_toArray, List.getElem_cons_succ, List.getElem_cons_zero, Act.put, List.setIfInBounds_toArray, List.set_cons_zero, List.set_cons_succ]
    refine reg_take (i := 8) (v := ?_) rfl (by kernel_rfl) (by kernel_rfl) (by kernel_rfl) (fun _ _ _ h => h) (Or.inl ⟨by kernel_rfl, ?_⟩) hS ?_
    rotate_left
    · (intro w' hSw; go_simp <;> with_reducible rfl)
    try simp only [List.getElem_toArray, List.getElem_cons_succ, List.getElem_cons_zero, Act.put, List.setIfInBounds_toArray, List.set_cons_zero, List.set_cons_succ]
    refine reg_take (i := 9) (v := ?_) rfl (by kernel_rfl) (by kernel_rfl) (by kernel_rfl) (fun _ _ _ h => h) (Or.inl ⟨by kernel_rfl, ?_⟩) hS ?_
    rotate_left
    · (intro w' hSw; go_simp <;> with_reducible rfl)
    try simp only [List.getElem_toArray, List.getElem_cons_succ, List.getElem_cons_zero, Act.put, List.setIfInBounds_toArray, List.set_cons_zero, List.set_cons_succ]
    refine reg_take (i := 12) (v := ?_) rfl (by kernel_rfl) (by kernel_rfl) (by kernel_rfl) (fun _ _ _ h => h) (Or.inl ⟨by kernel_rfl, ?_⟩) hS ?_
    rotate_left
    · (intro w' hSw; go_simp <;> with_reducible rfl)
    try simp only [List.getElem_toArray, List.getElem_cons_succ, List.getElem_cons_zero, Act.put, List.setIfInBounds_toArray, List.set_cons_zero, List.set_cons_succ]
    refine reg_take (i := 13) (v := ?_) rfl (by kernel_rfl) (by kernel_rfl) (by kernel_rfl) (fun _ _ _ h => h) (Or.inl ⟨by kernel_rfl, ?_⟩) hS ?_
    rotate_left
    · (intro w' hSw; go_simp <;> with_reducible rfl)
    try simp only [List.getElem_toArray, List.getElem_cons_succ, List.getElem_cons_zero, Act.put, List.setIfInBounds_toArray, List.set_cons_zero, List.set_cons_succ]
    refine reg_take (i := 14) (v := ?_) rfl (by kernel_rfl) (by kernel_rfl) (by kernel_rfl) (fun _ _ _ h => h) (Or.inl ⟨by kernel_rfl, ?_⟩) hS ?_
    rotate_left
    · (intro w' hSw; go_simp <;> with_reducible rfl)
    try simp only [List.getElem_toArray, List.getElem_cons_succ, List.getElem_cons_zero, Act.put, List.setIfInBounds_toArray, List.set_cons_zero, List.set_cons_succ]
    refine reg_take (i := 15) (v := ?_) rfl (by kernel_rfl) (by kernel_rfl) (by kernel_rfl) (fun _ _ _ h => h) (Or.inl ⟨by kernel_rfl, ?_⟩) hS ?_
    rotate_left
    · (intro w' hSw; have hc := conv_sl (P := Tryd.prog) (c := cap0) 22 5 9 Tryd.underlying22 Tryd.underlying5 Tryd.underlying9 HT.out.2.2 hSw; go_simp <;> with_reducible rfl)
    try simp only [List.getElem_toArray, List.getElem_cons_succ, List.getElem_cons_zero, Act.put, List.setIfInBounds_toArray, List.set_cons_zero, List.set_cons_succ]
    refine reg_call (i := 10) rfl (by kernel_rfl) (fun K hK => ?_)
    have HK := Lib.hid hK
    clear hK
    go_simp
    refine (vput_any _ none 0 0 [] (u : Int) rfl (Sl.nil _ _ _ _) (by omega) (by omega) (by omega) (by have := HU.out.2.2.1; omega)).mono ?_
    rintro e w3 ⟨v, rfl, ho, hb⟩
    rw [List.nil_append, Int.toNat_natCast, HT.out.2.1, HT.out.2.2] at ho
    have hb : Below w1.heap.size w1 w3 := below_join (show Below w1.heap.size w1 w1.drew from (Below.refl _ _).drew) hb
    obtain ⟨A1, c1, hv1, -, -⟩ := own_form ho
    rw [hv1]
    rw [hv1] at ho
    have H1 := Lib.hid (And.intro (below_join HU.out.1 hb) (And.intro ho (HT.out.1.below hb (fun _ h _ => h))))
    clear ho hb hv1
    go_wp2_with fail
    refine HK.out.to (fun w' => Sl w' (fun q => q < w1.heap.size) (some ⟨b, off, none⟩) n (byteC P) ∧ w'.ownsRow w1.heap.size 5 1 (.slice A1 n c1) n (P.map byteV)) (fun _ h => h.1) (⟨H1.out.2.2, H1.out.2.1⟩) ?_
    clear HK hS
    have hS : (fun w' => Sl w' (fun q => q < w1.heap.size) (some ⟨b, off, none⟩) n (byteC P) ∧ w'.ownsRow w1.heap.size 5 1 (.slice A1 n c1) n (P.map byteV)) (w3) := ⟨H1.out.2.2, H1.out.2.1⟩
    try simp only [List.getElem_toArray, List.getElem_cons_succ, List.getElem_cons_zero, Act.put, List.setIfInBounds_toArray, List.set_cons_zero, List.set_cons_succ]
    refine reg_take (i := 11) (v := ?_) rfl (by kernel_rfl) (by kernel_rfl) (by kernel_rfl) (fun _ _ _ h => h) (Or.inl ⟨by kernel_rfl, ?_⟩) hS ?_
    rotate_left
    · (intro w' hSw; have hc := conv_own (P := Tryd.prog) (c := c1) 22 5 9 Tryd.underlying22 Tryd.underlying5 Tryd.underlying9 HT.out.2.2 hSw.2; go_simp <;> with_reducible rfl)
    try simp only [List.getElem_toArray, List.getElem_cons_succ, List.getElem_cons_zero, Act.put, List.setIfInBounds_toArray, List.set_cons_zero, List.set_cons_succ]
    refine reg_take (i := 16) (v := ?_) rfl (by kernel_rfl) (by kernel_rfl) (by kernel_rfl) (fun _ _ _ h => h) (Or.inl ⟨by kernel_rfl, ?_⟩) hS ?_
    rotate_left
    · (intro w' hSw; go_simp <;> with_reducible rfl)
    try simp only [List.getElem_toArray, List.getElem_cons_succ, List.getElem_cons_zero, Act.put, List.setIfInBounds_toArray, List.set_cons_zero, List.set_cons_succ]
    refine reg_take (i := 17) (v := ?_) rfl (by kernel_rfl) (by kernel_rfl) (by kernel_rfl) (fun _ _ _ h => h) (Or.inl ⟨by kernel_rfl, ?_⟩) hS ?_
    rotate_left
    · (intro w' hSw; go_simp <;> with_reducible rfl)
    try simp only [List.getElem_toArray, List.getElem_cons_succ, List.getElem_cons_zero, Act.put, List.setIfInBounds_toArray, List.set_cons_zero, List.set_cons_succ]
    refine reg_take (i := 18) (v := ?_) rfl (by kernel_rfl) (by kernel_rfl) (by kernel_rfl) (fun _ _ _ h => h) (Or.inl ⟨by kernel_rfl, ?_⟩) hS ?_
    rotate_left
    · (intro w' hSw; go_simp <;> with_reducible rfl)
    try simp only [List.getElem_toArray, List.getElem_cons_succ, List.getElem_cons_zero, Act.put, List.setIfInBounds_toArray, List.set_cons_zero, List.set_cons_succ]
    refine wpAnyH_done (by kernel_rfl) ?_ _
    try simp only [List.getElem_toArray, List.getElem_cons_succ, List.getElem_cons_zero]
    try simp only [List.getElem_toArray, List.getElem_cons_succ, List.getElem_cons_zero, Act.put, List.setIfInBounds_toArray, List.set_cons_zero, List.set_cons_succ]
    go_wp2_with fail
    go_ret
    exact ⟨by simp, H1.out.1⟩
  · obtain ⟨h1, rfl, rfl⟩ : (k = 10 ∨ k = 11) ∧ u = 0 ∧ n = 0 := by omega
    have d0 : ((k : Int) != 0) = true := by simp; omega
    obtain ⟨x, hx⟩ : ∃ x, x = w1.heap.size := ⟨_, rfl⟩
    have o1 := ((Own.start w).call HU.out.1).alloc hx 5 #[.int .u8 172, .int .u8 2]
    have hv2 := HS.out.2.2.2.below o1.bel
    have hs2 := blk_sl (bs := [172, 2]) (o1.get 0 rfl)
    have HX := Lib.hid (And.intro hx (And.intro o1 (And.intro hv2 hs2)))
    clear hx o1 hv2 hs2 hve h0 h1
    go_wp2_with fail
    rw [← HX.out.1]
    refine (vread_any _ _ _ 2 2 [172, 2] rfl (getD_all_lt (by decide)) HX.out.2.2.2 (by omega) HX.out.2.2.1).mono ?_
    rintro e w3 ⟨rfl, hb⟩
    rw [vget_300]
    have HB := Lib.hid (HX.out.2.1.call hb)
    clear hb
    go_wp2_with fail
    go_ret
    exact ⟨rfl, HB.out.bel⟩
end Go.Proofs.YtgceeihdmhghiaaDoor
