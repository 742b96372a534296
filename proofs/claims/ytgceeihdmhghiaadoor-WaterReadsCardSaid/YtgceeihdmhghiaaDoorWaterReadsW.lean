/-
  The walk of the law WaterReads. (Printed by mk.py.)
-/
import Derived.Test.YtgceeihdmhghiaaDoorWtC
import Derived.Deep.DeepCutAuto
namespace Go.Proofs.YtgceeihdmhghiaaDoor
open Go.RowKit
set_option linter.unusedVariables false
set_option linter.unusedSimpArgs false
set_option maxRecDepth 100000 in
set_option maxHeartbeats 8000000 in
theorem waterReads_walk (a0 : Option Addr) (len0 cap0 : Nat) (z0 : List Int) (s1 : Bool) (l1 g1 : Int) (w : World) (w0 : IsRow .u8 w a0 len0 cap0 z0) (w1 : (Lit.int .i64 l1).wf = true ∧ (Lit.int .i64 g1).wf = true) (hv : HErr w) :
    Calls Tryd.prog 5 #[.slice a0 len0 cap0, .agg #[.bool s1, .int .i64 l1, .int .i64 g1]] w fun e w' => e = .returned (.bool true) ∧ Below w.heap.size w w' := by
  obtain ⟨v0, v1⟩ := wf_i64 w1.1
  obtain ⟨n, hn⟩ : ∃ n, n = min len0 500 := ⟨_, rfl⟩
  obtain ⟨bs, hbl, hbb, hbs⟩ := w0.bytes n (by omega)
  have l0 := w0.le
  have hcm : cap0 ≤ 9223372036854775807 := by
    rcases w0 with ⟨_, _, h, _⟩ | ⟨x, _, _, h, _⟩
    · omega
    · unfold maxLen at h; omega
  have hlc := l0.1
  have hnl : n ≤ len0 := by omega
  have hn5 : n ≤ 500 := by omega
  have hnc : n ≤ cap0 := by omega
  have hnone : 0 < len0 → ∃ b off, a0 = some ⟨b, off, none⟩ := fun h => by
    obtain ⟨b, off, e, _⟩ := hbs (by omega)
    exact ⟨b, off, e⟩
  clear w0 w1 l0
  obtain ⟨x, hx⟩ : ∃ x, x = w.heap.size := ⟨_, rfl⟩
  have o0 := Own.own1 w hx 37 #[.bool s1, .int .i64 l1, .int .i64 g1]
  have HS := Lib.hid (And.intro hbl (And.intro hbb (And.intro hbs hv)))
  have HN := Lib.hid (And.intro hn (And.intro hnone (And.intro v0 v1)))
  have HO := Lib.hid (And.intro hx o0)
  clear hbl hbb hbs hv hn hnone v0 v1 hx o0
  go_enter Tryd.func5, Tryd.ntmps5
  go_upto_if 15 with (fail)
  rw [← HO.out.1]
  refine wp_gen (Own w [(x, 37, #[.bool s1, .int .i64 l1, .int .i64 g1])]) HO.out.2 ?_
  intro w1 hS
  have HS1 := Lib.hid hS
  clear hS HO
  go_cut [0] (fun s0 wx => s0 = .slice a0 n cap0 ∧ w1 = wx)
  case first =>
    by_cases h : 500 < len0
    · obtain ⟨b, off, rfl⟩ := HN.out.2.1 (by omega)
      go_wp2_with fail
      go_meet
      have : n = 500 := by have := HN.out.1; omega
      subst this
      exact ⟨rfl, rfl⟩
    · go_wp2_with fail
      go_meet
      have : n = len0 := by have := HN.out.1; omega
      subst this
      exact ⟨rfl, rfl⟩
  case rest =>
    obtain ⟨rfl, rfl⟩ := hcut
    clear hlc hnl
    go_wp2_with fail
    refine (mread_any _ _ _ _ bs HS.out.1 HS.out.2.1 (sl_later HS.out.2.2.1 HS1.out.bel) hnc hcm (HS.out.2.2.2.below HS1.out.bel)).mono ?_
    rintro e w2 ⟨rfl, hb2⟩
    obtain ⟨s2, hs2⟩ : ∃ s, s = (mget bs).s := ⟨_, rfl⟩
    obtain ⟨l2, hl2⟩ : ∃ s, s = (mget bs).l := ⟨_, rfl⟩
    obtain ⟨g2, hg2⟩ : ∃ s, s = (mget bs).g := ⟨_, rfl⟩
    obtain ⟨n2, hn2⟩ : ∃ s, s = (mget bs).n := ⟨_, rfl⟩
    obtain ⟨e2, he2⟩ : ∃ s, s = (mget bs).e := ⟨_, rfl⟩
    rw [← hs2, ← hl2, ← hg2, ← hn2, ← he2]
    have HM := Lib.hid (And.intro hs2 (And.intro hl2 (And.intro hg2 (And.intro hn2 he2))))
    clear hs2 hl2 hg2 hn2 he2
    obtain ⟨y1, hy1⟩ : ∃ y, y = w2.heap.size := ⟨_, rfl⟩
    have HY1 := Lib.hid (And.intro hy1 ((HS1.out.call hb2).alloc hy1 37 #[.bool s2, .int .i64 l2, .int .i64 g2]))
    clear hy1 hb2 HS1
    go_wp2_with fail
    rw [← HY1.out.1]
    refine (rmread_any _ _ _ _ bs HS.out.1 HS.out.2.1 (sl_later HS.out.2.2.1 HY1.out.2.bel) hnc hcm).mono ?_
    rintro e w3 ⟨rfl, hb3⟩
    rw [← HM.out.1, ← HM.out.2.1, ← HM.out.2.2.1, ← HM.out.2.2.2.1, ← HM.out.2.2.2.2]
    obtain ⟨y2, hy2⟩ : ∃ y, y = w3.heap.size := ⟨_, rfl⟩
    have HY2 := Lib.hid (And.intro hy2 ((HY1.out.2.call hb3).alloc hy2 40 #[.bool s2, .int .i64 l2, .int .i64 g2]))
    clear hy2 hb3 HY1 HM
    go_wp2_with fail
    rw [← HY2.out.1]
    refine (new_ok 5 _ (by decide)).mono ?_
    rintro e w4 ⟨rfl, hb4⟩
    obtain ⟨y3, hy3⟩ : ∃ y, y = w4.heap.size := ⟨_, rfl⟩
    have HY3 := Lib.hid (And.intro hy3 ((HY2.out.2.call hb4).alloc hy3 37 #[.bool false, .int .i64 0, .int .i64 5]))
    clear hy3 hb4 HY2
    go_upto_region 6 with (fail)
    rw [← HY3.out.1]
    refine wp_gen (Own w [(x, 37, #[.bool s1, .int .i64 l1, .int .i64 g1]), (y1, 37, #[.bool s2, .int .i64 l2, .int .i64 g2]), (y2, 40, #[.bool s2, .int .i64 l2, .int .i64 g2]), (y3, 37, #[.bool false, .int .i64 0, .int .i64 5])]) HY3.out.2 ?_
    intro w5 hS5
    have H5 := Lib.hid hS5
    clear hS5 HY3
    obtain ⟨P, hP⟩ : ∃ P, P = bs ++ mput s1 l1 g1 := ⟨_, rfl⟩
    obtain ⟨pl, hpl⟩ : ∃ n, n = P.length := ⟨_, rfl⟩
    have HP := Lib.hid (And.intro hP hpl.symm)
    clear hP hpl
    have hS : (Own w [(x, 37, #[.bool s1, .int .i64 l1, .int .i64 g1]), (y1, 37, #[.bool s2, .int .i64 l2, .int .i64 g2]), (y2, 40, #[.bool s2, .int .i64 l2, .int .i64 g2]), (y3, 37, #[.bool false, .int .i64 0, .int .i64 5])]) (_) := H5.out.drew
    refine reg_start (Own w [(x, 37, #[.bool s1, .int .i64 l1, .int .i64 g1]), (y1, 37, #[.bool s2, .int .i64 l2, .int .i64 g2]), (y2, 40, #[.bool s2, .int .i64 l2, .int .i64 g2]), (y3, 37, #[.bool false, .int .i64 0, .int .i64 5])]) (by kernel_rfl) hS ?_
    refine reg_take (i := 0) (v := ?_) rfl (by kernel_rfl) (by kernel_rfl) (by kernel_rfl) (fun _ _ _ h => h) (Or.inl ⟨by kernel_rfl, ?_⟩) hS ?_
    rotate_left
    · (intro w' hSw; have z0_0 := hSw.cell 0 0 rfl rfl; have z0_1 := hSw.cell 0 1 rfl rfl; have z0_2 := hSw.cell 0 2 rfl rfl; have z1_0 := hSw.cell 1 0 rfl rfl; have z1_1 := hSw.cell 1 1 rfl rfl; have z1_2 := hSw.cell 1 2 rfl rfl; have z2_0 := hSw.cell 2 0 rfl rfl; have z2_1 := hSw.cell 2 1 rfl rfl; have z2_2 := hSw.cell 2 2 rfl rfl; have z3_0 := hSw.cell 3 0 rfl rfl; have z3_1 := hSw.cell 3 1 rfl rfl; have z3_2 := hSw.cell 3 2 rfl rfl; go_simp <;> with_reducible rfl)
    try simp only [List.getElem_toArray, List.getElem_cons_succ, List.getElem_cons_zero, Act.put, List.setIfInBounds_toArray, List.set_cons_zero, List.set_cons_succ]
    refine reg_take (i := 1) (v := ?_) rfl (by kernel_rfl) (by kernel_rfl) (by kernel_rfl) (fun _ _ _ h => h) (Or.inl ⟨by kernel_rfl, ?_⟩) hS ?_
    rotate_left
    · (intro w' hSw; have z0_0 := hSw.cell 0 0 rfl rfl; have z0_1 := hSw.cell 0 1 rfl rfl; have z0_2 := hSw.cell 0 2 rfl rfl; have z1_0 := hSw.cell 1 0 rfl rfl; have z1_1 := hSw.cell 1 1 rfl rfl; have z1_2 := hSw.cell 1 2 rfl rfl; have z2_0 := hSw.cell 2 0 rfl rfl; have z2_1 := hSw.cell 2 1 rfl rfl; have z2_2 := hSw.cell 2 2 rfl rfl; have z3_0 := hSw.cell 3 0 rfl rfl; have z3_1 := hSw.cell 3 1 rfl rfl; have z3_2 := hSw.cell 3 2 rfl rfl; go_simp <;> with_reducible rfl)
    try simp only [List.getElem_toArray, List.getElem_cons_succ, List.getElem_cons_zero, Act.put, List.setIfInBounds_toArray, List.set_cons_zero, List.set_cons_succ]
    refine reg_take (i := 2) (v := ?_) rfl (by kernel_rfl) (by kernel_rfl) (by kernel_rfl) (fun _ _ _ h => h) (Or.inl ⟨by kernel_rfl, ?_⟩) hS ?_
    rotate_left
    · (intro w' hSw; have z0_0 := hSw.cell 0 0 rfl rfl; have z0_1 := hSw.cell 0 1 rfl rfl; have z0_2 := hSw.cell 0 2 rfl rfl; have z1_0 := hSw.cell 1 0 rfl rfl; have z1_1 := hSw.cell 1 1 rfl rfl; have z1_2 := hSw.cell 1 2 rfl rfl; have z2_0 := hSw.cell 2 0 rfl rfl; have z2_1 := hSw.cell 2 1 rfl rfl; have z2_2 := hSw.cell 2 2 rfl rfl; have z3_0 := hSw.cell 3 0 rfl rfl; have z3_1 := hSw.cell 3 1 rfl rfl; have z3_2 := hSw.cell 3 2 rfl rfl; go_simp <;> with_reducible rfl)
    try simp only [List.getElem_toArray, List.getElem_cons_succ, List.getElem_cons_zero, Act.put, List.setIfInBounds_toArray, List.set_cons_zero, List.set_cons_succ]
    refine reg_take (i := 3) (v := ?_) rfl (by kernel_rfl) (by kernel_rfl) (by kernel_rfl) (fun _ _ _ h => h) (Or.inl ⟨by kernel_rfl, ?_⟩) hS ?_
    rotate_left
    · (intro w' hSw; have z0_0 := hSw.cell 0 0 rfl rfl; have z0_1 := hSw.cell 0 1 rfl rfl; have z0_2 := hSw.cell 0 2 rfl rfl; have z1_0 := hSw.cell 1 0 rfl rfl; have z1_1 := hSw.cell 1 1 rfl rfl; have z1_2 := hSw.cell 1 2 rfl rfl; have z2_0 := hSw.cell 2 0 rfl rfl; have z2_1 := hSw.cell 2 1 rfl rfl; have z2_2 := hSw.cell 2 2 rfl rfl; have z3_0 := hSw.cell 3 0 rfl rfl; have z3_1 := hSw.cell 3 1 rfl rfl; have z3_2 := hSw.cell 3 2 rfl rfl; go_simp <;> with_reducible rfl)
    try simp only [List.getElem_toArray, List.getElem_cons_succ, List.getElem_cons_zero, Act.put, List.setIfInBounds_toArray, List.set_cons_zero, List.set_cons_succ]
    refine reg_take (i := 4) (v := ?_) rfl (by kernel_rfl) (by kernel_rfl) (by kernel_rfl) (fun _ _ _ h => h) (Or.inl ⟨by kernel_rfl, ?_⟩) hS ?_
    rotate_left
    · (intro w' hSw; have z0_0 := hSw.cell 0 0 rfl rfl; have z0_1 := hSw.cell 0 1 rfl rfl; have z0_2 := hSw.cell 0 2 rfl rfl; have z1_0 := hSw.cell 1 0 rfl rfl; have z1_1 := hSw.cell 1 1 rfl rfl; have z1_2 := hSw.cell 1 2 rfl rfl; have z2_0 := hSw.cell 2 0 rfl rfl; have z2_1 := hSw.cell 2 1 rfl rfl; have z2_2 := hSw.cell 2 2 rfl rfl; have z3_0 := hSw.cell 3 0 rfl rfl; have z3_1 := hSw.cell 3 1 rfl rfl; have z3_2 := hSw.cell 3 2 rfl rfl; go_simp <;> with_reducible rfl)
    try simp only [List.getElem_toArray, List.getElem_cons_succ, List.getElem_cons_zero, Act.put, List.setIfInBounds_toArray, List.set_cons_zero, List.set_cons_succ]
    refine reg_take (i := 5) (v := ?_) rfl (by kernel_rfl) (by kernel_rfl) (by kernel_rfl) (fun _ _ _ h => h) (Or.inl ⟨by kernel_rfl, ?_⟩) hS ?_
    rotate_left
    · (intro w' hSw; have z0_0 := hSw.cell 0 0 rfl rfl; have z0_1 := hSw.cell 0 1 rfl rfl; have z0_2 := hSw.cell 0 2 rfl rfl; have z1_0 := hSw.cell 1 0 rfl rfl; have z1_1 := hSw.cell 1 1 rfl rfl; have z1_2 := hSw.cell 1 2 rfl rfl; have z2_0 := hSw.cell 2 0 rfl rfl; have z2_1 := hSw.cell 2 1 rfl rfl; have z2_2 := hSw.cell 2 2 rfl rfl; have z3_0 := hSw.cell 3 0 rfl rfl; have z3_1 := hSw.cell 3 1 rfl rfl; have z3_2 := hSw.cell 3 2 rfl rfl; go_simp <;> with_reducible rfl)
    try simp only [List.getElem_toArray, List.getElem_cons_succ, List.getElem_cons_zero, Act.put, List.setIfInBounds_toArray, List.set_cons_zero, List.set_cons_succ]
    refine reg_take (i := 6) (v := ?_) rfl (by kernel_rfl) (by kernel_rfl) (by kernel_rfl) (fun _ _ _ h => h) (Or.inl ⟨by kernel_rfl, ?_⟩) hS ?_
    rotate_left
    · (intro w' hSw; have z0_0 := hSw.cell 0 0 rfl rfl; have z0_1 := hSw.cell 0 1 rfl rfl; have z0_2 := hSw.cell 0 2 rfl rfl; have z1_0 := hSw.cell 1 0 rfl rfl; have z1_1 := hSw.cell 1 1 rfl rfl; have z1_2 := hSw.cell 1 2 rfl rfl; have z2_0 := hSw.cell 2 0 rfl rfl; have z2_1 := hSw.cell 2 1 rfl rfl; have z2_2 := hSw.cell 2 2 rfl rfl; have z3_0 := hSw.cell 3 0 rfl rfl; have z3_1 := hSw.cell 3 1 rfl rfl; have z3_2 := hSw.cell 3 2 rfl rfl; go_simp <;> with_reducible rfl)
    try simp only [List.getElem_toArray, List.getElem_cons_succ, List.getElem_cons_zero, Act.put, List.setIfInBounds_toArray, List.set_cons_zero, List.set_cons_succ]
    refine reg_take (i := 7) (v := ?_) rfl (by kernel_rfl) (by kernel_rfl) (by kernel_rfl) (fun _ _ _ h => h) (Or.inl ⟨by kernel_rfl, ?_⟩) hS ?_
    rotate_left
    · (intro w' hSw; have z0_0 := hSw.cell 0 0 rfl rfl; have z0_1 := hSw.cell 0 1 rfl rfl; have z0_2 := hSw.cell 0 2 rfl rfl; have z1_0 := hSw.cell 1 0 rfl rfl; have z1_1 := hSw.cell 1 1 rfl rfl; have z1_2 := hSw.cell 1 2 rfl rfl; have z2_0 := hSw.cell 2 0 rfl rfl; have z2_1 := hSw.cell 2 1 rfl rfl; have z2_2 := hSw.cell 2 2 rfl rfl; have z3_0 := hSw.cell 3 0 rfl rfl; have z3_1 := hSw.cell 3 1 rfl rfl; have z3_2 := hSw.cell 3 2 rfl rfl; go_simp <;> with_reducible rfl)
    try simp only [List.getElem_toArray, List.getElem_cons_succ, List.getElem_cons_zero, Act.put, List.setIfInBounds_toArray, List.set_cons_zero, List.set_cons_succ]
    refine reg_take (i := 8) (v := ?_) rfl (by kernel_rfl) (by kernel_rfl) (by kernel_rfl) (fun _ _ _ h => h) (Or.inl ⟨by kernel_rfl, ?_⟩) hS ?_
    rotate_left
    · (intro w' hSw; have z0_0 := hSw.cell 0 0 rfl rfl; have z0_1 := hSw.cell 0 1 rfl rfl; have z0_2 := hSw.cell 0 2 rfl rfl; have z1_0 := hSw.cell 1 0 rfl rfl; have z1_1 := hSw.cell 1 1 rfl rfl; have z1_2 := hSw.cell 1 2 rfl rfl; have z2_0 := hSw.cell 2 0 rfl rfl; have z2_1 := hSw.cell 2 1 rfl rfl; have z2_2 := hSw.cell 2 2 rfl rfl; have z3_0 := hSw.cell 3 0 rfl rfl; have z3_1 := hSw.cell 3 1 rfl rfl; have z3_2 := hSw.cell 3 2 rfl rfl; go_simp <;> with_reducible rfl)
    try simp only [List.getElem_toArray, List.getElem_cons_succ, List.getElem_cons_zero, Act.put, List.setIfInBounds_toArray, List.set_cons_zero, List.set_cons_succ]
    refine reg_take (i := 9) (v := ?_) rfl (by kernel_rfl) (by kernel_rfl) (by kernel_rfl) (fun _ _ _ h => h) (Or.inl ⟨by kernel_rfl, ?_⟩) hS ?_
    rotate_left
    · (intro w' hSw; have z0_0 := hSw.cell 0 0 rfl rfl; have z0_1 := hSw.cell 0 1 rfl rfl; have z0_2 := hSw.cell 0 2 rfl rfl; have z1_0 := hSw.cell 1 0 rfl rfl; have z1_1 := hSw.cell 1 1 rfl rfl; have z1_2 := hSw.cell 1 2 rfl rfl; have z2_0 := hSw.cell 2 0 rfl rfl; have z2_1 := hSw.cell 2 1 rfl rfl; have z2_2 := hSw.cell 2 2 rfl rfl; have z3_0 := hSw.cell 3 0 rfl rfl; have z3_1 := hSw.cell 3 1 rfl rfl; have z3_2 := hSw.cell 3 2 rfl rfl; go_simp <;> with_reducible rfl)
    try simp only [List.getElem_toArray, List.getElem_cons_succ, List.getElem_cons_zero, Act.put, List.setIfInBounds_toArray, List.set_cons_zero, List.set_cons_succ]
    refine reg_take (i := 10) (v := ?_) rfl (by kernel_rfl) (by kernel_rfl) (by kernel_rfl) (fun _ _ _ h => h) (Or.inl ⟨by kernel_rfl, ?_⟩) hS ?_
    rotate_left
    · (intro w' hSw; have z0_0 := hSw.cell 0 0 rfl rfl; have z0_1 := hSw.cell 0 1 rfl rfl; have z0_2 := hSw.cell 0 2 rfl rfl; have z1_0 := hSw.cell 1 0 rfl rfl; have z1_1 := hSw.cell 1 1 rfl rfl; have z1_2 := hSw.cell 1 2 rfl rfl; have z2_0 := hSw.cell 2 0 rfl rfl; have z2_1 := hSw.cell 2 1 rfl rfl; have z2_2 := hSw.cell 2 2 rfl rfl; have z3_0 := hSw.cell 3 0 rfl rfl; have z3_1 := hSw.cell 3 1 rfl rfl; have z3_2 := hSw.cell 3 2 rfl rfl; go_simp <;> with_reducible rfl)
    try simp only [List.getElem_toArray, List.getElem_cons_succ, List.getElem_cons_zero, Act.put, List.setIfInBounds_toArray, List.set_cons_zero, List.set_cons_succ]
    refine reg_take (i := 11) (v := ?_) rfl (by kernel_rfl) (by kernel_rfl) (by kernel_rfl) (fun _ _ _ h => h) (Or.inl ⟨by kernel_rfl, ?_⟩) hS ?_
    rotate_left
    · (intro w' hSw; have z0_0 := hSw.cell 0 0 rfl rfl; have z0_1 := hSw.cell 0 1 rfl rfl; have z0_2 := hSw.cell 0 2 rfl rfl; have z1_0 := hSw.cell 1 0 rfl rfl; have z1_1 := hSw.cell 1 1 rfl rfl; have z1_2 := hSw.cell 1 2 rfl rfl; have z2_0 := hSw.cell 2 0 rfl rfl; have z2_1 := hSw.cell 2 1 rfl rfl; have z2_2 := hSw.cell 2 2 rfl rfl; have z3_0 := hSw.cell 3 0 rfl rfl; have z3_1 := hSw.cell 3 1 rfl rfl; have z3_2 := hSw.cell 3 2 rfl rfl; go_simp <;> with_reducible rfl)
    try simp only [List.getElem_toArray, List.getElem_cons_succ, List.getElem_cons_zero, Act.put, List.setIfInBounds_toArray, List.set_cons_zero, List.set_cons_succ]
    refine reg_take (i := 12) (v := ?_) rfl (by kernel_rfl) (by kernel_rfl) (by kernel_rfl) (fun _ _ _ h => h) (Or.inl ⟨by kernel_rfl, ?_⟩) hS ?_
    rotate_left
    · (intro w' hSw; have z0_0 := hSw.cell 0 0 rfl rfl; have z0_1 := hSw.cell 0 1 rfl rfl; have z0_2 := hSw.cell 0 2 rfl rfl; have z1_0 := hSw.cell 1 0 rfl rfl; have z1_1 := hSw.cell 1 1 rfl rfl; have z1_2 := hSw.cell 1 2 rfl rfl; have z2_0 := hSw.cell 2 0 rfl rfl; have z2_1 := hSw.cell 2 1 rfl rfl; have z2_2 := hSw.cell 2 2 rfl rfl; have z3_0 := hSw.cell 3 0 rfl rfl; have z3_1 := hSw.cell 3 1 rfl rfl; have z3_2 := hSw.cell 3 2 rfl rfl; go_simp <;> with_reducible rfl)
    try simp only [List.getElem_toArray, List.getElem_cons_succ, List.getElem_cons_zero, Act.put, List.setIfInBounds_toArray, List.set_cons_zero, List.set_cons_succ]
    refine reg_take (i := 13) (v := ?_) rfl (by kernel_rfl) (by kernel_rfl) (by kernel_rfl) (fun _ _ _ h => h) (Or.inl ⟨by kernel_rfl, ?_⟩) hS ?_
    rotate_left
    · (intro w' hSw; have z0_0 := hSw.cell 0 0 rfl rfl; have z0_1 := hSw.cell 0 1 rfl rfl; have z0_2 := hSw.cell 0 2 rfl rfl; have z1_0 := hSw.cell 1 0 rfl rfl; have z1_1 := hSw.cell 1 1 rfl rfl; have z1_2 := hSw.cell 1 2 rfl rfl; have z2_0 := hSw.cell 2 0 rfl rfl; have z2_1 := hSw.cell 2 1 rfl rfl; have z2_2 := hSw.cell 2 2 rfl rfl; have z3_0 := hSw.cell 3 0 rfl rfl; have z3_1 := hSw.cell 3 1 rfl rfl; have z3_2 := hSw.cell 3 2 rfl rfl; go_simp <;> with_reducible rfl)
    try simp only [List.getElem_toArray, List.getElem_cons_succ, List.getElem_cons_zero, Act.put, List.setIfInBounds_toArray, List.set_cons_zero, List.set_cons_succ]
    refine reg_take (i := 14) (v := ?_) rfl (by kernel_rfl) (by kernel_rfl) (by kernel_rfl) (fun _ _ _ h => h) (Or.inl ⟨by kernel_rfl, ?_⟩) hS ?_
    rotate_left
    · (intro w' hSw; have z0_0 := hSw.cell 0 0 rfl rfl; have z0_1 := hSw.cell 0 1 rfl rfl; have z0_2 := hSw.cell 0 2 rfl rfl; have z1_0 := hSw.cell 1 0 rfl rfl; have z1_1 := hSw.cell 1 1 rfl rfl; have z1_2 := hSw.cell 1 2 rfl rfl; have z2_0 := hSw.cell 2 0 rfl rfl; have z2_1 := hSw.cell 2 1 rfl rfl; have z2_2 := hSw.cell 2 2 rfl rfl; have z3_0 := hSw.cell 3 0 rfl rfl; have z3_1 := hSw.cell 3 1 rfl rfl; have z3_2 := hSw.cell 3 2 rfl rfl; go_simp <;> with_reducible rfl)
    try simp only [List.getElem_toArray, List.getElem_cons_succ, List.getElem_cons_zero, Act.put, List.setIfInBounds_toArray, List.set_cons_zero, List.set_cons_succ]
    refine reg_take (i := 15) (v := ?_) rfl (by kernel_rfl) (by kernel_rfl) (by kernel_rfl) (fun _ _ _ h => h) (Or.inl ⟨by kernel_rfl, ?_⟩) hS ?_
    rotate_left
    · (intro w' hSw; have z0_0 := hSw.cell 0 0 rfl rfl; have z0_1 := hSw.cell 0 1 rfl rfl; have z0_2 := hSw.cell 0 2 rfl rfl; have z1_0 := hSw.cell 1 0 rfl rfl; have z1_1 := hSw.cell 1 1 rfl rfl; have z1_2 := hSw.cell 1 2 rfl rfl; have z2_0 := hSw.cell 2 0 rfl rfl; have z2_1 := hSw.cell 2 1 rfl rfl; have z2_2 := hSw.cell 2 2 rfl rfl; have z3_0 := hSw.cell 3 0 rfl rfl; have z3_1 := hSw.cell 3 1 rfl rfl; have z3_2 := hSw.cell 3 2 rfl rfl; go_simp <;> with_reducible rfl)
    try simp only [List.getElem_toArray, List.getElem_cons_succ, List.getElem_cons_zero, Act.put, List.setIfInBounds_toArray, List.set_cons_zero, List.set_cons_succ]
    refine reg_take (i := 18) (v := ?_) rfl (by kernel_rfl) (by kernel_rfl) (by kernel_rfl) (fun _ _ _ h => h) (Or.inl ⟨by kernel_rfl, ?_⟩) hS ?_
    rotate_left
    · (intro w' hSw; have z0_0 := hSw.cell 0 0 rfl rfl; have z0_1 := hSw.cell 0 1 rfl rfl; have z0_2 := hSw.cell 0 2 rfl rfl; have z1_0 := hSw.cell 1 0 rfl rfl; have z1_1 := hSw.cell 1 1 rfl rfl; have z1_2 := hSw.cell 1 2 rfl rfl; have z2_0 := hSw.cell 2 0 rfl rfl; have z2_1 := hSw.cell 2 1 rfl rfl; have z2_2 := hSw.cell 2 2 rfl rfl; have z3_0 := hSw.cell 3 0 rfl rfl; have z3_1 := hSw.cell 3 1 rfl rfl; have z3_2 := hSw.cell 3 2 rfl rfl; go_simp <;> with_reducible rfl)
    try simp only [List.getElem_toArray, List.getElem_cons_succ, List.getElem_cons_zero, Act.put, List.setIfInBounds_toArray, List.set_cons_zero, List.set_cons_succ]
    refine reg_take (i := 19) (v := ?_) rfl (by kernel_rfl) (by kernel_rfl) (by kernel_rfl) (fun _ _ _ h => h) (Or.inl ⟨by kernel_rfl, ?_⟩) hS ?_
    rotate_left
    · (intro w' hSw; have z0_0 := hSw.cell 0 0 rfl rfl; have z0_1 := hSw.cell 0 1 rfl rfl; have z0_2 := hSw.cell 0 2 rfl rfl; have z1_0 := hSw.cell 1 0 rfl rfl; have z1_1 := hSw.cell 1 1 rfl rfl; have z1_2 := hSw.cell 1 2 rfl rfl; have z2_0 := hSw.cell 2 0 rfl rfl; have z2_1 := hSw.cell 2 1 rfl rfl; have z2_2 := hSw.cell 2 2 rfl rfl; have z3_0 := hSw.cell 3 0 rfl rfl; have z3_1 := hSw.cell 3 1 rfl rfl; have z3_2 := hSw.cell 3 2 rfl rfl; go_simp <;> with_reducible rfl)
    try simp only [List.getElem_toArray, List.getElem_cons_succ, List.getElem_cons_zero, Act.put, List.setIfInBounds_toArray, List.set_cons_zero, List.set_cons_succ]
    refine reg_call (i := 16) rfl (by kernel_rfl) (fun K hK => ?_)
    have HK := Lib.hid hK
    clear hK
    go_simp
    refine (wput_any _ a0 n cap0 bs s1 l1 g1 HS.out.1 (sl_later HS.out.2.2.1 hS.bel) hnc (by omega) HN.out.2.2.1 HN.out.2.2.2).mono ?_
    rintro e w6 ⟨v, rfl, ho, hb⟩
    rw [← HP.out.1, HP.out.2] at ho
    obtain ⟨A1, c1, hv1, -, -⟩ := own_form ho
    subst hv1
    have hS6 := hS.call hb
    have H6 := Lib.hid (And.intro hS6 (own_base ho (Nat.zero_le _)))
    clear ho hb hS6
    go_wp2_with fail
    refine HK.out.to (fun w' => Own w [(x, 37, #[.bool s1, .int .i64 l1, .int .i64 g1]), (y1, 37, #[.bool s2, .int .i64 l2, .int .i64 g2]), (y2, 40, #[.bool s2, .int .i64 l2, .int .i64 g2]), (y3, 37, #[.bool false, .int .i64 0, .int .i64 5])] w' ∧ w'.ownsRow 0 5 1 (.slice A1 pl c1) pl (P.map byteV)) (fun _ h => h.1) (H6.out) ?_
    clear HK hS
    have hS : (fun w' => Own w [(x, 37, #[.bool s1, .int .i64 l1, .int .i64 g1]), (y1, 37, #[.bool s2, .int .i64 l2, .int .i64 g2]), (y2, 40, #[.bool s2, .int .i64 l2, .int .i64 g2]), (y3, 37, #[.bool false, .int .i64 0, .int .i64 5])] w' ∧ w'.ownsRow 0 5 1 (.slice A1 pl c1) pl (P.map byteV)) (w6) := H6.out
    try simp only [List.getElem_toArray, List.getElem_cons_succ, List.getElem_cons_zero, Act.put, List.setIfInBounds_toArray, List.set_cons_zero, List.set_cons_succ]
    refine reg_take (i := 17) (v := ?_) rfl (by kernel_rfl) (by kernel_rfl) (by kernel_rfl) (fun _ _ _ h => h) (Or.inl ⟨by kernel_rfl, ?_⟩) hS ?_
    rotate_left
    · (intro w' hSw; have hc := conv_own (P := Tryd.prog) (c := c1) 22 5 9 Tryd.underlying22 Tryd.underlying5 Tryd.underlying9 HP.out.2 hSw.2; go_simp <;> with_reducible rfl)
    try simp only [List.getElem_toArray, List.getElem_cons_succ, List.getElem_cons_zero, Act.put, List.setIfInBounds_toArray, List.set_cons_zero, List.set_cons_succ]
    refine reg_call (i := 20) rfl (by kernel_rfl) (fun K hK => ?_)
    have HK := Lib.hid hK
    clear hK
    go_simp
    refine (rwput_any _ a0 n cap0 bs s1 l1 g1 HS.out.1 (sl_later HS.out.2.2.1 hS.1.bel) hnc (by omega) HN.out.2.2.1 HN.out.2.2.2).mono ?_
    rintro e w7 ⟨v, rfl, ho, hb⟩
    rw [← HP.out.1, HP.out.2] at ho
    obtain ⟨A2, c2, hv2, -, -⟩ := own_form ho
    subst hv2
    have hS7 := hS.1.call hb
    have H7 := Lib.hid (And.intro hS7 (And.intro (own_later hS.2 hb) (own_base ho (Nat.zero_le _))))
    clear ho hb hS7
    go_wp2_with fail
    refine HK.out.to (fun w' => Own w [(x, 37, #[.bool s1, .int .i64 l1, .int .i64 g1]), (y1, 37, #[.bool s2, .int .i64 l2, .int .i64 g2]), (y2, 40, #[.bool s2, .int .i64 l2, .int .i64 g2]), (y3, 37, #[.bool false, .int .i64 0, .int .i64 5])] w' ∧ w'.ownsRow 0 5 1 (.slice A1 pl c1) pl (P.map byteV) ∧ w'.ownsRow 0 5 1 (.slice A2 pl c2) pl (P.map byteV)) (fun _ h => ⟨h.1, h.2.1⟩) (H7.out) ?_
    clear HK hS
    have hS : (fun w' => Own w [(x, 37, #[.bool s1, .int .i64 l1, .int .i64 g1]), (y1, 37, #[.bool s2, .int .i64 l2, .int .i64 g2]), (y2, 40, #[.bool s2, .int .i64 l2, .int .i64 g2]), (y3, 37, #[.bool false, .int .i64 0, .int .i64 5])] w' ∧ w'.ownsRow 0 5 1 (.slice A1 pl c1) pl (P.map byteV) ∧ w'.ownsRow 0 5 1 (.slice A2 pl c2) pl (P.map byteV)) (w7) := H7.out
    try simp only [List.getElem_toArray, List.getElem_cons_succ, List.getElem_cons_zero, Act.put, List.setIfInBounds_toArray, List.set_cons_zero, List.set_cons_succ]
    refine reg_take (i := 21) (v := ?_) rfl (by kernel_rfl) (by kernel_rfl) (by kernel_rfl) (fun _ _ _ h => h) (Or.inl ⟨by kernel_rfl, ?_⟩) hS ?_
    rotate_left
    · (intro w' hSw; have hc := conv_own (P := Tryd.prog) (c := c2) 22 5 9 Tryd.underlying22 Tryd.underlying5 Tryd.underlying9 HP.out.2 hSw.2.2; go_simp <;> with_reducible rfl)
    try simp only [List.getElem_toArray, List.getElem_cons_succ, List.getElem_cons_zero, Act.put, List.setIfInBounds_toArray, List.set_cons_zero, List.set_cons_succ]
    refine reg_take (i := 22) (v := ?_) rfl (by kernel_rfl) (by kernel_rfl) (by kernel_rfl) (fun _ _ _ h => h) (Or.inl ⟨by kernel_rfl, ?_⟩) hS ?_
    rotate_left
    · (intro w' hSw; have hSw := hSw.1; have z0_0 := hSw.cell 0 0 rfl rfl; have z0_1 := hSw.cell 0 1 rfl rfl; have z0_2 := hSw.cell 0 2 rfl rfl; have z1_0 := hSw.cell 1 0 rfl rfl; have z1_1 := hSw.cell 1 1 rfl rfl; have z1_2 := hSw.cell 1 2 rfl rfl; have z2_0 := hSw.cell 2 0 rfl rfl; have z2_1 := hSw.cell 2 1 rfl rfl; have z2_2 := hSw.cell 2 2 rfl rfl; have z3_0 := hSw.cell 3 0 rfl rfl; have z3_1 := hSw.cell 3 1 rfl rfl; have z3_2 := hSw.cell 3 2 rfl rfl; go_simp <;> with_reducible rfl)
    try simp only [List.getElem_toArray, List.getElem_cons_succ, List.getElem_cons_zero, Act.put, List.setIfInBounds_toArray, List.set_cons_zero, List.set_cons_succ]
    refine reg_take (i := 23) (v := ?_) rfl (by kernel_rfl) (by kernel_rfl) (by kernel_rfl) (fun _ _ _ h => h) (Or.inl ⟨by kernel_rfl, ?_⟩) hS ?_
    rotate_left
    · (intro w' hSw; have hSw := hSw.1; have z0_0 := hSw.cell 0 0 rfl rfl; have z0_1 := hSw.cell 0 1 rfl rfl; have z0_2 := hSw.cell 0 2 rfl rfl; have z1_0 := hSw.cell 1 0 rfl rfl; have z1_1 := hSw.cell 1 1 rfl rfl; have z1_2 := hSw.cell 1 2 rfl rfl; have z2_0 := hSw.cell 2 0 rfl rfl; have z2_1 := hSw.cell 2 1 rfl rfl; have z2_2 := hSw.cell 2 2 rfl rfl; have z3_0 := hSw.cell 3 0 rfl rfl; have z3_1 := hSw.cell 3 1 rfl rfl; have z3_2 := hSw.cell 3 2 rfl rfl; go_simp <;> with_reducible rfl)
    try simp only [List.getElem_toArray, List.getElem_cons_succ, List.getElem_cons_zero, Act.put, List.setIfInBounds_toArray, List.set_cons_zero, List.set_cons_succ]
    refine reg_take (i := 24) (v := ?_) rfl (by kernel_rfl) (by kernel_rfl) (by kernel_rfl) (fun _ _ _ h => h) (Or.inl ⟨by kernel_rfl, ?_⟩) hS ?_
    rotate_left
    · (intro w' hSw; have hSw := hSw.1; have z0_0 := hSw.cell 0 0 rfl rfl; have z0_1 := hSw.cell 0 1 rfl rfl; have z0_2 := hSw.cell 0 2 rfl rfl; have z1_0 := hSw.cell 1 0 rfl rfl; have z1_1 := hSw.cell 1 1 rfl rfl; have z1_2 := hSw.cell 1 2 rfl rfl; have z2_0 := hSw.cell 2 0 rfl rfl; have z2_1 := hSw.cell 2 1 rfl rfl; have z2_2 := hSw.cell 2 2 rfl rfl; have z3_0 := hSw.cell 3 0 rfl rfl; have z3_1 := hSw.cell 3 1 rfl rfl; have z3_2 := hSw.cell 3 2 rfl rfl; go_simp <;> with_reducible rfl)
    try simp only [List.getElem_toArray, List.getElem_cons_succ, List.getElem_cons_zero, Act.put, List.setIfInBounds_toArray, List.set_cons_zero, List.set_cons_succ]
    refine reg_take (i := 25) (v := ?_) rfl (by kernel_rfl) (by kernel_rfl) (by kernel_rfl) (fun _ _ _ h => h) (Or.inl ⟨by kernel_rfl, ?_⟩) hS ?_
    rotate_left
    · (intro w' hSw; have hSw := hSw.1; have z0_0 := hSw.cell 0 0 rfl rfl; have z0_1 := hSw.cell 0 1 rfl rfl; have z0_2 := hSw.cell 0 2 rfl rfl; have z1_0 := hSw.cell 1 0 rfl rfl; have z1_1 := hSw.cell 1 1 rfl rfl; have z1_2 := hSw.cell 1 2 rfl rfl; have z2_0 := hSw.cell 2 0 rfl rfl; have z2_1 := hSw.cell 2 1 rfl rfl; have z2_2 := hSw.cell 2 2 rfl rfl; have z3_0 := hSw.cell 3 0 rfl rfl; have z3_1 := hSw.cell 3 1 rfl rfl; have z3_2 := hSw.cell 3 2 rfl rfl; go_simp <;> with_reducible rfl)
    try simp only [List.getElem_toArray, List.getElem_cons_succ, List.getElem_cons_zero, Act.put, List.setIfInBounds_toArray, List.set_cons_zero, List.set_cons_succ]
    refine reg_take (i := 26) (v := ?_) rfl (by kernel_rfl) (by kernel_rfl) (by kernel_rfl) (fun _ _ _ h => h) (Or.inl ⟨by kernel_rfl, ?_⟩) hS ?_
    rotate_left
    · (intro w' hSw; have hSw := hSw.1; have z0_0 := hSw.cell 0 0 rfl rfl; have z0_1 := hSw.cell 0 1 rfl rfl; have z0_2 := hSw.cell 0 2 rfl rfl; have z1_0 := hSw.cell 1 0 rfl rfl; have z1_1 := hSw.cell 1 1 rfl rfl; have z1_2 := hSw.cell 1 2 rfl rfl; have z2_0 := hSw.cell 2 0 rfl rfl; have z2_1 := hSw.cell 2 1 rfl rfl; have z2_2 := hSw.cell 2 2 rfl rfl; have z3_0 := hSw.cell 3 0 rfl rfl; have z3_1 := hSw.cell 3 1 rfl rfl; have z3_2 := hSw.cell 3 2 rfl rfl; go_simp <;> with_reducible rfl)
    try simp only [List.getElem_toArray, List.getElem_cons_succ, List.getElem_cons_zero, Act.put, List.setIfInBounds_toArray, List.set_cons_zero, List.set_cons_succ]
    refine reg_take (i := 27) (v := ?_) rfl (by kernel_rfl) (by kernel_rfl) (by kernel_rfl) (fun _ _ _ h => h) (Or.inl ⟨by kernel_rfl, ?_⟩) hS ?_
    rotate_left
    · (intro w' hSw; have hSw := hSw.1; have z0_0 := hSw.cell 0 0 rfl rfl; have z0_1 := hSw.cell 0 1 rfl rfl; have z0_2 := hSw.cell 0 2 rfl rfl; have z1_0 := hSw.cell 1 0 rfl rfl; have z1_1 := hSw.cell 1 1 rfl rfl; have z1_2 := hSw.cell 1 2 rfl rfl; have z2_0 := hSw.cell 2 0 rfl rfl; have z2_1 := hSw.cell 2 1 rfl rfl; have z2_2 := hSw.cell 2 2 rfl rfl; have z3_0 := hSw.cell 3 0 rfl rfl; have z3_1 := hSw.cell 3 1 rfl rfl; have z3_2 := hSw.cell 3 2 rfl rfl; go_simp <;> with_reducible rfl)
    try simp only [List.getElem_toArray, List.getElem_cons_succ, List.getElem_cons_zero, Act.put, List.setIfInBounds_toArray, List.set_cons_zero, List.set_cons_succ]
    refine reg_take (i := 28) (v := ?_) rfl (by kernel_rfl) (by kernel_rfl) (by kernel_rfl) (fun _ _ _ h => h) (Or.inl ⟨by kernel_rfl, ?_⟩) hS ?_
    rotate_left
    · (intro w' hSw; have hSw := hSw.1; have z0_0 := hSw.cell 0 0 rfl rfl; have z0_1 := hSw.cell 0 1 rfl rfl; have z0_2 := hSw.cell 0 2 rfl rfl; have z1_0 := hSw.cell 1 0 rfl rfl; have z1_1 := hSw.cell 1 1 rfl rfl; have z1_2 := hSw.cell 1 2 rfl rfl; have z2_0 := hSw.cell 2 0 rfl rfl; have z2_1 := hSw.cell 2 1 rfl rfl; have z2_2 := hSw.cell 2 2 rfl rfl; have z3_0 := hSw.cell 3 0 rfl rfl; have z3_1 := hSw.cell 3 1 rfl rfl; have z3_2 := hSw.cell 3 2 rfl rfl; go_simp <;> with_reducible rfl)
    try simp only [List.getElem_toArray, List.getElem_cons_succ, List.getElem_cons_zero, Act.put, List.setIfInBounds_toArray, List.set_cons_zero, List.set_cons_succ]
    refine reg_take (i := 29) (v := ?_) rfl (by kernel_rfl) (by kernel_rfl) (by kernel_rfl) (fun _ _ _ h => h) (Or.inl ⟨by kernel_rfl, ?_⟩) hS ?_
    rotate_left
    · (intro w' hSw; have hSw := hSw.1; have z0_0 := hSw.cell 0 0 rfl rfl; have z0_1 := hSw.cell 0 1 rfl rfl; have z0_2 := hSw.cell 0 2 rfl rfl; have z1_0 := hSw.cell 1 0 rfl rfl; have z1_1 := hSw.cell 1 1 rfl rfl; have z1_2 := hSw.cell 1 2 rfl rfl; have z2_0 := hSw.cell 2 0 rfl rfl; have z2_1 := hSw.cell 2 1 rfl rfl; have z2_2 := hSw.cell 2 2 rfl rfl; have z3_0 := hSw.cell 3 0 rfl rfl; have z3_1 := hSw.cell 3 1 rfl rfl; have z3_2 := hSw.cell 3 2 rfl rfl; go_simp <;> with_reducible rfl)
    try simp only [List.getElem_toArray, List.getElem_cons_succ, List.getElem_cons_zero, Act.put, List.setIfInBounds_toArray, List.set_cons_zero, List.set_cons_succ]
    refine reg_take (i := 30) (v := ?_) rfl (by kernel_rfl) (by kernel_rfl) (by kernel_rfl) (fun _ _ _ h => h) (Or.inl ⟨by kernel_rfl, ?_⟩) hS ?_
    rotate_left
    · (intro w' hSw; have hSw := hSw.1; have z0_0 := hSw.cell 0 0 rfl rfl; have z0_1 := hSw.cell 0 1 rfl rfl; have z0_2 := hSw.cell 0 2 rfl rfl; have z1_0 := hSw.cell 1 0 rfl rfl; have z1_1 := hSw.cell 1 1 rfl rfl; have z1_2 := hSw.cell 1 2 rfl rfl; have z2_0 := hSw.cell 2 0 rfl rfl; have z2_1 := hSw.cell 2 1 rfl rfl; have z2_2 := hSw.cell 2 2 rfl rfl; have z3_0 := hSw.cell 3 0 rfl rfl; have z3_1 := hSw.cell 3 1 rfl rfl; have z3_2 := hSw.cell 3 2 rfl rfl; go_simp <;> with_reducible rfl)
    try simp only [List.getElem_toArray, List.getElem_cons_succ, List.getElem_cons_zero, Act.put, List.setIfInBounds_toArray, List.set_cons_zero, List.set_cons_succ]
    refine reg_take (i := 31) (v := ?_) rfl (by kernel_rfl) (by kernel_rfl) (by kernel_rfl) (fun _ _ _ h => h) (Or.inl ⟨by kernel_rfl, ?_⟩) hS ?_
    rotate_left
    · (intro w' hSw; have hSw := hSw.1; have z0_0 := hSw.cell 0 0 rfl rfl; have z0_1 := hSw.cell 0 1 rfl rfl; have z0_2 := hSw.cell 0 2 rfl rfl; have z1_0 := hSw.cell 1 0 rfl rfl; have z1_1 := hSw.cell 1 1 rfl rfl; have z1_2 := hSw.cell 1 2 rfl rfl; have z2_0 := hSw.cell 2 0 rfl rfl; have z2_1 := hSw.cell 2 1 rfl rfl; have z2_2 := hSw.cell 2 2 rfl rfl; have z3_0 := hSw.cell 3 0 rfl rfl; have z3_1 := hSw.cell 3 1 rfl rfl; have z3_2 := hSw.cell 3 2 rfl rfl; go_simp <;> with_reducible rfl)
    try simp only [List.getElem_toArray, List.getElem_cons_succ, List.getElem_cons_zero, Act.put, List.setIfInBounds_toArray, List.set_cons_zero, List.set_cons_succ]
    refine reg_take (i := 32) (v := ?_) rfl (by kernel_rfl) (by kernel_rfl) (by kernel_rfl) (fun _ _ _ h => h) (Or.inl ⟨by kernel_rfl, ?_⟩) hS ?_
    rotate_left
    · (intro w' hSw; have hSw := hSw.1; have z0_0 := hSw.cell 0 0 rfl rfl; have z0_1 := hSw.cell 0 1 rfl rfl; have z0_2 := hSw.cell 0 2 rfl rfl; have z1_0 := hSw.cell 1 0 rfl rfl; have z1_1 := hSw.cell 1 1 rfl rfl; have z1_2 := hSw.cell 1 2 rfl rfl; have z2_0 := hSw.cell 2 0 rfl rfl; have z2_1 := hSw.cell 2 1 rfl rfl; have z2_2 := hSw.cell 2 2 rfl rfl; have z3_0 := hSw.cell 3 0 rfl rfl; have z3_1 := hSw.cell 3 1 rfl rfl; have z3_2 := hSw.cell 3 2 rfl rfl; go_simp <;> with_reducible rfl)
    try simp only [List.getElem_toArray, List.getElem_cons_succ, List.getElem_cons_zero, Act.put, List.setIfInBounds_toArray, List.set_cons_zero, List.set_cons_succ]
    refine reg_take (i := 33) (v := ?_) rfl (by kernel_rfl) (by kernel_rfl) (by kernel_rfl) (fun _ _ _ h => h) (Or.inl ⟨by kernel_rfl, ?_⟩) hS ?_
    rotate_left
    · (intro w' hSw; have hSw := hSw.1; have z0_0 := hSw.cell 0 0 rfl rfl; have z0_1 := hSw.cell 0 1 rfl rfl; have z0_2 := hSw.cell 0 2 rfl rfl; have z1_0 := hSw.cell 1 0 rfl rfl; have z1_1 := hSw.cell 1 1 rfl rfl; have z1_2 := hSw.cell 1 2 rfl rfl; have z2_0 := hSw.cell 2 0 rfl rfl; have z2_1 := hSw.cell 2 1 rfl rfl; have z2_2 := hSw.cell 2 2 rfl rfl; have z3_0 := hSw.cell 3 0 rfl rfl; have z3_1 := hSw.cell 3 1 rfl rfl; have z3_2 := hSw.cell 3 2 rfl rfl; go_simp <;> with_reducible rfl)
    try simp only [List.getElem_toArray, List.getElem_cons_succ, List.getElem_cons_zero, Act.put, List.setIfInBounds_toArray, List.set_cons_zero, List.set_cons_succ]
    refine wpAnyH_done (by kernel_rfl) ?_ _
    try simp only [List.getElem_toArray, List.getElem_cons_succ, List.getElem_cons_zero]
    try simp only [List.getElem_toArray, List.getElem_cons_succ, List.getElem_cons_zero, Act.put, List.setIfInBounds_toArray, List.set_cons_zero, List.set_cons_succ]
    go_wp2_with fail
    go_ret
    exact ⟨by simp, H7.out.1.bel⟩
end Go.Proofs.YtgceeihdmhghiaaDoor
