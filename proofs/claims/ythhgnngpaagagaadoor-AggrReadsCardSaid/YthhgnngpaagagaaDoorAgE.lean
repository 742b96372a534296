/-
  The contract of aggr.Merge. (Printed by mk.py.)
-/
import Derived.Test.YthhgnngpaagagaaDoorAgD
import Derived.Deep.Cut
namespace Go.Proofs.YthhgnngpaagagaaDoor
open Go.RowKit
set_option linter.unusedVariables false
set_option linter.unusedSimpArgs false
/-- The counts and the sum fit. -/
def AgOk (a : Ag) : Prop := I64 a.n ∧ S128 a.s ∧ I64 a.lo ∧ I64 a.hi
set_option maxRecDepth 100000 in
set_option maxHeartbeats 4000000 in
theorem merge_any (a b : Ag) (ha : AgOk a) (hb : AgOk b) (w : World) : Calls Tryd.prog 50 #[.agg #[.int .i64 a.n, .int .i64 (hiOf a.s), .int .u64 (loOf a.s), .int .i64 a.lo, .int .i64 a.hi, .int .i64 a.f.t, .int .i64 a.f.v, .int .i64 a.f.s, .int .i64 a.l.t, .int .i64 a.l.v, .int .i64 a.l.s], .agg #[.int .i64 b.n, .int .i64 (hiOf b.s), .int .u64 (loOf b.s), .int .i64 b.lo, .int .i64 b.hi, .int .i64 b.f.t, .int .i64 b.f.v, .int .i64 b.f.s, .int .i64 b.l.t, .int .i64 b.l.v, .int .i64 b.l.s]] w (MergePost a b w) := by
  have HH := Lib.hid (And.intro ha hb)
  clear ha hb
  obtain ⟨x, hx⟩ : ∃ x, x = w.heap.size := ⟨_, rfl⟩
  have o0 := (Own.own3 w hx 28 #[.int .i64 a.n, .int .i64 (hiOf a.s), .int .u64 (loOf a.s), .int .i64 a.lo, .int .i64 a.hi, .int .i64 a.f.t, .int .i64 a.f.v, .int .i64 a.f.s, .int .i64 a.l.t, .int .i64 a.l.v, .int .i64 a.l.s] 28 #[.int .i64 b.n, .int .i64 (hiOf b.s), .int .u64 (loOf b.s), .int .i64 b.lo, .int .i64 b.hi, .int .i64 b.f.t, .int .i64 b.f.v, .int .i64 b.f.s, .int .i64 b.l.t, .int .i64 b.l.v, .int .i64 b.l.s] 28 #[.int .i64 0, .int .i64 0, .int .u64 0, .int .i64 0, .int .i64 0, .int .i64 0, .int .i64 0, .int .i64 0, .int .i64 0, .int .i64 0, .int .i64 0]).front 2 rfl
  have HO := Lib.hid (And.intro hx o0)
  clear hx o0
  by_cases h1 : a.n < 0
  · have HR := Lib.hid (show mergeR a b = (zeroA, 2) by unfold mergeR; rw [if_pos (.inl h1)])
    have d1 : decide (a.n < 0) = true := by simp [h1]
    go_enter Tryd.func50, Tryd.ntmps50
    go_wp2_with fail
    exact bodyPost_ret (v := .tuple #[.agg #[.int .i64 0, .int .i64 0, .int .u64 0, .int .i64 0, .int .i64 0, .int .i64 0, .int .i64 0, .int .i64 0, .int .i64 0, .int .i64 0, .int .i64 0], .int .i64 2]) (by simp [results, Tryd.results50, go_sem]) rfl ⟨zeroA, 2, HR.out, rfl, (Own.own3 w rfl _ _ _ _ _ _).bel⟩
  have d1 : decide (a.n < 0) = false := by simp; omega
  by_cases h2 : b.n < 0
  · have HR := Lib.hid (show mergeR a b = (zeroA, 2) by unfold mergeR; rw [if_pos (.inr h2)])
    have d2 : decide (b.n < 0) = true := by simp [h2]
    go_enter Tryd.func50, Tryd.ntmps50
    go_wp2_with fail
    exact bodyPost_ret (v := .tuple #[.agg #[.int .i64 0, .int .i64 0, .int .u64 0, .int .i64 0, .int .i64 0, .int .i64 0, .int .i64 0, .int .i64 0, .int .i64 0, .int .i64 0, .int .i64 0], .int .i64 2]) (by simp [results, Tryd.results50, go_sem]) rfl ⟨zeroA, 2, HR.out, rfl, (Own.own3 w rfl _ _ _ _ _ _).bel⟩
  have d2 : decide (b.n < 0) = false := by simp; omega
  by_cases h3 : a.n = 0
  · by_cases h4 : b.n = 0
    · have HR := Lib.hid (show mergeR a b = (zeroA, 0) by unfold mergeR; rw [if_neg (by omega), if_pos ⟨h3, h4⟩])
      have d3 : (a.n == 0) = true := by simp [h3]
      have d4 : (b.n == 0) = true := by simp [h4]
      clear h1 h2 h3 h4
      go_enter Tryd.func50, Tryd.ntmps50
      go_wp2_with fail
      exact bodyPost_ret (v := .tuple #[.agg #[.int .i64 0, .int .i64 0, .int .u64 0, .int .i64 0, .int .i64 0, .int .i64 0, .int .i64 0, .int .i64 0, .int .i64 0, .int .i64 0, .int .i64 0], .int .i64 0]) (by simp [results, Tryd.results50, go_sem]) rfl ⟨zeroA, 0, HR.out, rfl, (Own.own3 w rfl _ _ _ _ _ _).bel⟩
    · have HR := Lib.hid (show mergeR a b = (b, 0) by unfold mergeR; rw [if_neg (by omega), if_neg (by omega), if_pos h3])
      have d3 : (a.n == 0) = true := by simp [h3]
      have d4 : (b.n == 0) = false := by simp [h4]
      clear h1 h2 h3 h4
      go_enter Tryd.func50, Tryd.ntmps50
      go_wp2_with fail
      exact bodyPost_ret (v := .tuple #[.agg #[.int .i64 b.n, .int .i64 (hiOf b.s), .int .u64 (loOf b.s), .int .i64 b.lo, .int .i64 b.hi, .int .i64 b.f.t, .int .i64 b.f.v, .int .i64 b.f.s, .int .i64 b.l.t, .int .i64 b.l.v, .int .i64 b.l.s], .int .i64 0]) (by simp [results, Tryd.results50, go_sem]) rfl ⟨b, 0, HR.out, rfl, (Own.own3 w rfl _ _ _ _ _ _).bel⟩
  have d3 : (a.n == 0) = false := by simp [h3]
  by_cases h4 : b.n = 0
  · have HR := Lib.hid (show mergeR a b = (a, 0) by unfold mergeR; rw [if_neg (by omega), if_neg (by omega), if_neg h3, if_pos h4])
    have d4 : (b.n == 0) = true := by simp [h4]
    clear h1 h2 h3 h4
    go_enter Tryd.func50, Tryd.ntmps50
    go_wp2_with fail
    exact bodyPost_ret (v := .tuple #[.agg #[.int .i64 a.n, .int .i64 (hiOf a.s), .int .u64 (loOf a.s), .int .i64 a.lo, .int .i64 a.hi, .int .i64 a.f.t, .int .i64 a.f.v, .int .i64 a.f.s, .int .i64 a.l.t, .int .i64 a.l.v, .int .i64 a.l.s], .int .i64 0]) (by simp [results, Tryd.results50, go_sem]) rfl ⟨a, 0, HR.out, rfl, (Own.own3 w rfl _ _ _ _ _ _).bel⟩
  have d4 : (b.n == 0) = false := by simp [h4]
  have hrest : mergeR a b = if ¬ S128 (a.s + b.s) ∨ 4611686018427387904 < a.n ∨ 4611686018427387904 - a.n < b.n then (zeroA, 3) else (mergeA a b, 0) := by
    unfold mergeR; rw [if_neg (by omega), if_neg (by omega), if_neg h3, if_neg h4]
  have HR := Lib.hid hrest
  have b1 : 0 < a.n := by omega
  have b2 : 0 < b.n := by omega
  have b3 : a.n ≤ 9223372036854775807 := HH.out.1.1.2
  have b4 : b.n ≤ 9223372036854775807 := HH.out.2.1.2
  clear h1 h2 h3 h4 hrest
  go_enter Tryd.func50, Tryd.ntmps50
  go_wp2_with fail
  refine (wadd_any a.s b.s HH.out.1.2.1 HH.out.2.2.1 _).mono ?_
  rintro e w1 ⟨hcase, hb1⟩
  obtain ⟨y, hy⟩ : ∃ y, y = w1.heap.size := ⟨_, rfl⟩
  have o1 := HO.out.2.call hb1
  rcases hcase with ⟨hfit, rfl⟩ | ⟨hfit, rfl⟩
  · have o2 := o1.alloc hy 24 #[.int .i64 (hiOf (a.s + b.s)), .int .u64 (loOf (a.s + b.s))]
    have HS := Lib.hid (And.intro hfit (And.intro hy o2))
    clear hfit hy o1 o2 hb1
    go_upto_region 10 with (fail)
    rw [← HO.out.1, ← HS.out.2.1]
    have hS := HS.out.2.2
    generalize w1.alloc _ = w2 at hS ⊢
    have z0_0 := hS.cell 0 0 rfl rfl; have z0_1 := hS.cell 0 1 rfl rfl; have z0_2 := hS.cell 0 2 rfl rfl; have z0_3 := hS.cell 0 3 rfl rfl; have z0_4 := hS.cell 0 4 rfl rfl; have z0_5 := hS.cell 0 5 rfl rfl; have z0_6 := hS.cell 0 6 rfl rfl; have z0_7 := hS.cell 0 7 rfl rfl; have z0_8 := hS.cell 0 8 rfl rfl; have z0_9 := hS.cell 0 9 rfl rfl; have z0_10 := hS.cell 0 10 rfl rfl; have z1_0 := hS.cell 1 0 rfl rfl; have z1_1 := hS.cell 1 1 rfl rfl; have z1_2 := hS.cell 1 2 rfl rfl; have z1_3 := hS.cell 1 3 rfl rfl; have z1_4 := hS.cell 1 4 rfl rfl; have z1_5 := hS.cell 1 5 rfl rfl; have z1_6 := hS.cell 1 6 rfl rfl; have z1_7 := hS.cell 1 7 rfl rfl; have z1_8 := hS.cell 1 8 rfl rfl; have z1_9 := hS.cell 1 9 rfl rfl; have z1_10 := hS.cell 1 10 rfl rfl; have z2_0 := hS.cell 2 0 rfl rfl; have z2_1 := hS.cell 2 1 rfl rfl; have z2_2 := hS.cell 2 2 rfl rfl; have z2_3 := hS.cell 2 3 rfl rfl; have z2_4 := hS.cell 2 4 rfl rfl; have z2_5 := hS.cell 2 5 rfl rfl; have z2_6 := hS.cell 2 6 rfl rfl; have z2_7 := hS.cell 2 7 rfl rfl; have z2_8 := hS.cell 2 8 rfl rfl; have z2_9 := hS.cell 2 9 rfl rfl; have z2_10 := hS.cell 2 10 rfl rfl; have z3_0 := hS.cell 3 0 rfl rfl; have z3_1 := hS.cell 3 1 rfl rfl
    have zf0 := hS.free 0 rfl
    have HT := Lib.hid hS
    clear hS
    by_cases h5 : 4611686018427387904 < a.n
    · have HZ := Lib.hid (show mergeR a b = (zeroA, 3) by rw [HR.out, if_pos (.inr (.inl h5))])
      have d5 : decide (4611686018427387904 < a.n) = true := by simp [h5]
      go_wp2_with fail
      exact bodyPost_ret (v := .tuple #[.agg #[.int .i64 0, .int .i64 0, .int .u64 0, .int .i64 0, .int .i64 0, .int .i64 0, .int .i64 0, .int .i64 0, .int .i64 0, .int .i64 0, .int .i64 0], .int .i64 3]) (by simp [results, Tryd.results50, go_sem, z0_0, z0_1, z0_2, z0_3, z0_4, z0_5, z0_6, z0_7, z0_8, z0_9, z0_10]) rfl ⟨zeroA, 3, HZ.out, rfl, ((OwnR.of HT.out rfl).put [.int .i64 0, .int .i64 0, .int .u64 0, .int .i64 0, .int .i64 0, .int .i64 0, .int .i64 0, .int .i64 0, .int .i64 0, .int .i64 0, .int .i64 0] rfl).bel⟩
    have d5 : decide (4611686018427387904 < a.n) = false := by simp; omega
    by_cases h6 : 4611686018427387904 - a.n < b.n
    · have HZ := Lib.hid (show mergeR a b = (zeroA, 3) by rw [HR.out, if_pos (.inr (.inr h6))])
      have d6 : decide (4611686018427387904 - a.n < b.n) = true := by simp [h6]
      go_wp2_with fail
      exact bodyPost_ret (v := .tuple #[.agg #[.int .i64 0, .int .i64 0, .int .u64 0, .int .i64 0, .int .i64 0, .int .i64 0, .int .i64 0, .int .i64 0, .int .i64 0, .int .i64 0, .int .i64 0], .int .i64 3]) (by simp [results, Tryd.results50, go_sem, z0_0, z0_1, z0_2, z0_3, z0_4, z0_5, z0_6, z0_7, z0_8, z0_9, z0_10]) rfl ⟨zeroA, 3, HZ.out, rfl, ((OwnR.of HT.out rfl).put [.int .i64 0, .int .i64 0, .int .u64 0, .int .i64 0, .int .i64 0, .int .i64 0, .int .i64 0, .int .i64 0, .int .i64 0, .int .i64 0, .int .i64 0] rfl).bel⟩
    have d6 : decide (4611686018427387904 - a.n < b.n) = false := by simp; omega
    have HZ := Lib.hid (show mergeR a b = (mergeA a b, 0) by rw [HR.out, if_neg (by have := HS.out.1; rintro (h | h | h) <;> first | exact h this | omega)])
    obtain ⟨z, hz⟩ : ∃ z, z = w2.heap.size := ⟨_, rfl⟩
    have HW := Lib.hid hz
    clear hz
    go_upto_region 13 with (fail)
    rw [← HW.out]
    generalize hm : (if b.lo < a.lo then b.lo else a.lo) = m
    generalize hM : (if a.hi < b.hi then b.hi else a.hi) = M
    generalize hn : a.n + b.n = n
    have hs := HT.out.alloc HW.out 28 #[.int .i64 n, .int .i64 (hiOf (a.s + b.s)), .int .u64 (loOf (a.s + b.s)), .int .i64 m, .int .i64 M, .int .i64 a.f.t, .int .i64 a.f.v, .int .i64 a.f.s, .int .i64 a.l.t, .int .i64 a.l.v, .int .i64 a.l.s]
    have HV : Hid (∀ F L : Pt, (F = if ordI b.f a.f < 0 then b.f else a.f) → (L = if 0 < ordI b.l a.l then b.l else a.l) → mergeR a b = (⟨n, a.s + b.s, m, M, F, L⟩, 0)) := Lib.hid (by
      intro F L hF hL
      rw [HZ.out, hF, hL, ← hm, ← hM, ← hn]
      rfl)
    clear hm hM hn z0_0 z0_1 z0_2 z0_3 z0_4 z0_5 z0_6 z0_7 z0_8 z0_9 z0_10 z1_0 z1_1 z1_2 z1_3 z1_4 z1_5 z1_6 z1_7 z1_8 z1_9 z1_10 z2_0 z2_1 z2_2 z2_3 z2_4 z2_5 z2_6 z2_7 z2_8 z2_9 z2_10 z3_0 z3_1 zf0 d1 d2 d3 d4 d5 d6
    generalize a.s + b.s = s at hs HV ⊢
    have hS : Own w [(x + 1 + 1, 28, #[.int .i64 0, .int .i64 0, .int .u64 0, .int .i64 0, .int .i64 0, .int .i64 0, .int .i64 0, .int .i64 0, .int .i64 0, .int .i64 0, .int .i64 0]), (x, 28, #[.int .i64 a.n, .int .i64 (hiOf a.s), .int .u64 (loOf a.s), .int .i64 a.lo, .int .i64 a.hi, .int .i64 a.f.t, .int .i64 a.f.v, .int .i64 a.f.s, .int .i64 a.l.t, .int .i64 a.l.v, .int .i64 a.l.s]), (x + 1, 28, #[.int .i64 b.n, .int .i64 (hiOf b.s), .int .u64 (loOf b.s), .int .i64 b.lo, .int .i64 b.hi, .int .i64 b.f.t, .int .i64 b.f.v, .int .i64 b.f.s, .int .i64 b.l.t, .int .i64 b.l.v, .int .i64 b.l.s]), (y, 24, #[.int .i64 (hiOf s), .int .u64 (loOf s)]), (z, 28, #[.int .i64 n, .int .i64 (hiOf s), .int .u64 (loOf s), .int .i64 m, .int .i64 M, .int .i64 a.f.t, .int .i64 a.f.v, .int .i64 a.f.s, .int .i64 a.l.t, .int .i64 a.l.v, .int .i64 a.l.s])] _ := hs
    clear hs
    generalize w2.alloc _ = w3 at hS ⊢
    have z0_0 := hS.cell 0 0 rfl rfl; have z0_1 := hS.cell 0 1 rfl rfl; have z0_2 := hS.cell 0 2 rfl rfl; have z0_3 := hS.cell 0 3 rfl rfl; have z0_4 := hS.cell 0 4 rfl rfl; have z0_5 := hS.cell 0 5 rfl rfl; have z0_6 := hS.cell 0 6 rfl rfl; have z0_7 := hS.cell 0 7 rfl rfl; have z0_8 := hS.cell 0 8 rfl rfl; have z0_9 := hS.cell 0 9 rfl rfl; have z0_10 := hS.cell 0 10 rfl rfl; have z1_0 := hS.cell 1 0 rfl rfl; have z1_1 := hS.cell 1 1 rfl rfl; have z1_2 := hS.cell 1 2 rfl rfl; have z1_3 := hS.cell 1 3 rfl rfl; have z1_4 := hS.cell 1 4 rfl rfl; have z1_5 := hS.cell 1 5 rfl rfl; have z1_6 := hS.cell 1 6 rfl rfl; have z1_7 := hS.cell 1 7 rfl rfl; have z1_8 := hS.cell 1 8 rfl rfl; have z1_9 := hS.cell 1 9 rfl rfl; have z1_10 := hS.cell 1 10 rfl rfl; have z2_0 := hS.cell 2 0 rfl rfl; have z2_1 := hS.cell 2 1 rfl rfl; have z2_2 := hS.cell 2 2 rfl rfl; have z2_3 := hS.cell 2 3 rfl rfl; have z2_4 := hS.cell 2 4 rfl rfl; have z2_5 := hS.cell 2 5 rfl rfl; have z2_6 := hS.cell 2 6 rfl rfl; have z2_7 := hS.cell 2 7 rfl rfl; have z2_8 := hS.cell 2 8 rfl rfl; have z2_9 := hS.cell 2 9 rfl rfl; have z2_10 := hS.cell 2 10 rfl rfl; have z3_0 := hS.cell 3 0 rfl rfl; have z3_1 := hS.cell 3 1 rfl rfl; have z4_0 := hS.cell 4 0 rfl rfl; have z4_1 := hS.cell 4 1 rfl rfl; have z4_2 := hS.cell 4 2 rfl rfl; have z4_3 := hS.cell 4 3 rfl rfl; have z4_4 := hS.cell 4 4 rfl rfl; have z4_5 := hS.cell 4 5 rfl rfl; have z4_6 := hS.cell 4 6 rfl rfl; have z4_7 := hS.cell 4 7 rfl rfl; have z4_8 := hS.cell 4 8 rfl rfl; have z4_9 := hS.cell 4 9 rfl rfl; have z4_10 := hS.cell 4 10 rfl rfl
    have HA := Lib.hid hS
    clear hS
    go_wp2_with fail
    refine (order_any b.f a.f _).mono ?_
    rintro e w4 ⟨rfl, hb4⟩
    have hS := HA.out.call hb4
    clear z0_0 z0_1 z0_2 z0_3 z0_4 z0_5 z0_6 z0_7 z0_8 z0_9 z0_10 z1_0 z1_1 z1_2 z1_3 z1_4 z1_5 z1_6 z1_7 z1_8 z1_9 z1_10 z2_0 z2_1 z2_2 z2_3 z2_4 z2_5 z2_6 z2_7 z2_8 z2_9 z2_10 z3_0 z3_1 z4_0 z4_1 z4_2 z4_3 z4_4 z4_5 z4_6 z4_7 z4_8 z4_9 z4_10
    clear hb4 HA
    by_cases h7 : ordI b.f a.f < 0
    · have HF := Lib.hid (show b.f = if ordI b.f a.f < 0 then b.f else a.f by rw [if_pos h7])
      have d7 : decide (ordI b.f a.f < 0) = true := by simp [h7]
      have z0_0 := hS.cell 0 0 rfl rfl; have z0_1 := hS.cell 0 1 rfl rfl; have z0_2 := hS.cell 0 2 rfl rfl; have z0_3 := hS.cell 0 3 rfl rfl; have z0_4 := hS.cell 0 4 rfl rfl; have z0_5 := hS.cell 0 5 rfl rfl; have z0_6 := hS.cell 0 6 rfl rfl; have z0_7 := hS.cell 0 7 rfl rfl; have z0_8 := hS.cell 0 8 rfl rfl; have z0_9 := hS.cell 0 9 rfl rfl; have z0_10 := hS.cell 0 10 rfl rfl; have z1_0 := hS.cell 1 0 rfl rfl; have z1_1 := hS.cell 1 1 rfl rfl; have z1_2 := hS.cell 1 2 rfl rfl; have z1_3 := hS.cell 1 3 rfl rfl; have z1_4 := hS.cell 1 4 rfl rfl; have z1_5 := hS.cell 1 5 rfl rfl; have z1_6 := hS.cell 1 6 rfl rfl; have z1_7 := hS.cell 1 7 rfl rfl; have z1_8 := hS.cell 1 8 rfl rfl; have z1_9 := hS.cell 1 9 rfl rfl; have z1_10 := hS.cell 1 10 rfl rfl; have z2_0 := hS.cell 2 0 rfl rfl; have z2_1 := hS.cell 2 1 rfl rfl; have z2_2 := hS.cell 2 2 rfl rfl; have z2_3 := hS.cell 2 3 rfl rfl; have z2_4 := hS.cell 2 4 rfl rfl; have z2_5 := hS.cell 2 5 rfl rfl; have z2_6 := hS.cell 2 6 rfl rfl; have z2_7 := hS.cell 2 7 rfl rfl; have z2_8 := hS.cell 2 8 rfl rfl; have z2_9 := hS.cell 2 9 rfl rfl; have z2_10 := hS.cell 2 10 rfl rfl; have z3_0 := hS.cell 3 0 rfl rfl; have z3_1 := hS.cell 3 1 rfl rfl; have z4_0 := hS.cell 4 0 rfl rfl; have z4_1 := hS.cell 4 1 rfl rfl; have z4_2 := hS.cell 4 2 rfl rfl; have z4_3 := hS.cell 4 3 rfl rfl; have z4_4 := hS.cell 4 4 rfl rfl; have z4_5 := hS.cell 4 5 rfl rfl; have z4_6 := hS.cell 4 6 rfl rfl; have z4_7 := hS.cell 4 7 rfl rfl; have z4_8 := hS.cell 4 8 rfl rfl; have z4_9 := hS.cell 4 9 rfl rfl; have z4_10 := hS.cell 4 10 rfl rfl
      have zf0 := hS.free 0 rfl; have zf4 := hS.free 4 rfl
      have hs := ((hS.set 4 5 rfl (.int .i64 b.f.t)).set 4 6 rfl (.int .i64 b.f.v)).set 4 7 rfl (.int .i64 b.f.s)
      have HB := Lib.hid hs
      clear hS hs
      go_upto_region 15 with (fail)
      have hS : Own w [(x + 1 + 1, 28, #[.int .i64 0, .int .i64 0, .int .u64 0, .int .i64 0, .int .i64 0, .int .i64 0, .int .i64 0, .int .i64 0, .int .i64 0, .int .i64 0, .int .i64 0]), (x, 28, #[.int .i64 a.n, .int .i64 (hiOf a.s), .int .u64 (loOf a.s), .int .i64 a.lo, .int .i64 a.hi, .int .i64 a.f.t, .int .i64 a.f.v, .int .i64 a.f.s, .int .i64 a.l.t, .int .i64 a.l.v, .int .i64 a.l.s]), (x + 1, 28, #[.int .i64 b.n, .int .i64 (hiOf b.s), .int .u64 (loOf b.s), .int .i64 b.lo, .int .i64 b.hi, .int .i64 b.f.t, .int .i64 b.f.v, .int .i64 b.f.s, .int .i64 b.l.t, .int .i64 b.l.v, .int .i64 b.l.s]), (y, 24, #[.int .i64 (hiOf s), .int .u64 (loOf s)]), (z, 28, #[.int .i64 n, .int .i64 (hiOf s), .int .u64 (loOf s), .int .i64 m, .int .i64 M, .int .i64 b.f.t, .int .i64 b.f.v, .int .i64 b.f.s, .int .i64 a.l.t, .int .i64 a.l.v, .int .i64 a.l.s])] _ := HB.out
      clear z0_0 z0_1 z0_2 z0_3 z0_4 z0_5 z0_6 z0_7 z0_8 z0_9 z0_10 z1_0 z1_1 z1_2 z1_3 z1_4 z1_5 z1_6 z1_7 z1_8 z1_9 z1_10 z2_0 z2_1 z2_2 z2_3 z2_4 z2_5 z2_6 z2_7 z2_8 z2_9 z2_10 z3_0 z3_1 z4_0 z4_1 z4_2 z4_3 z4_4 z4_5 z4_6 z4_7 z4_8 z4_9 z4_10 zf0 zf4 HB
      generalize World.setCell _ _ _ = w5 at hS ⊢
      have z0_0 := hS.cell 0 0 rfl rfl; have z0_1 := hS.cell 0 1 rfl rfl; have z0_2 := hS.cell 0 2 rfl rfl; have z0_3 := hS.cell 0 3 rfl rfl; have z0_4 := hS.cell 0 4 rfl rfl; have z0_5 := hS.cell 0 5 rfl rfl; have z0_6 := hS.cell 0 6 rfl rfl; have z0_7 := hS.cell 0 7 rfl rfl; have z0_8 := hS.cell 0 8 rfl rfl; have z0_9 := hS.cell 0 9 rfl rfl; have z0_10 := hS.cell 0 10 rfl rfl; have z1_0 := hS.cell 1 0 rfl rfl; have z1_1 := hS.cell 1 1 rfl rfl; have z1_2 := hS.cell 1 2 rfl rfl; have z1_3 := hS.cell 1 3 rfl rfl; have z1_4 := hS.cell 1 4 rfl rfl; have z1_5 := hS.cell 1 5 rfl rfl; have z1_6 := hS.cell 1 6 rfl rfl; have z1_7 := hS.cell 1 7 rfl rfl; have z1_8 := hS.cell 1 8 rfl rfl; have z1_9 := hS.cell 1 9 rfl rfl; have z1_10 := hS.cell 1 10 rfl rfl; have z2_0 := hS.cell 2 0 rfl rfl; have z2_1 := hS.cell 2 1 rfl rfl; have z2_2 := hS.cell 2 2 rfl rfl; have z2_3 := hS.cell 2 3 rfl rfl; have z2_4 := hS.cell 2 4 rfl rfl; have z2_5 := hS.cell 2 5 rfl rfl; have z2_6 := hS.cell 2 6 rfl rfl; have z2_7 := hS.cell 2 7 rfl rfl; have z2_8 := hS.cell 2 8 rfl rfl; have z2_9 := hS.cell 2 9 rfl rfl; have z2_10 := hS.cell 2 10 rfl rfl; have z3_0 := hS.cell 3 0 rfl rfl; have z3_1 := hS.cell 3 1 rfl rfl; have z4_0 := hS.cell 4 0 rfl rfl; have z4_1 := hS.cell 4 1 rfl rfl; have z4_2 := hS.cell 4 2 rfl rfl; have z4_3 := hS.cell 4 3 rfl rfl; have z4_4 := hS.cell 4 4 rfl rfl; have z4_5 := hS.cell 4 5 rfl rfl; have z4_6 := hS.cell 4 6 rfl rfl; have z4_7 := hS.cell 4 7 rfl rfl; have z4_8 := hS.cell 4 8 rfl rfl; have z4_9 := hS.cell 4 9 rfl rfl; have z4_10 := hS.cell 4 10 rfl rfl
      have HB := Lib.hid hS
      clear hS
      go_wp2_with fail
      refine (order_any b.l a.l _).mono ?_
      rintro e w6 ⟨rfl, hb6⟩
      have hS := HB.out.call hb6
      clear z0_0 z0_1 z0_2 z0_3 z0_4 z0_5 z0_6 z0_7 z0_8 z0_9 z0_10 z1_0 z1_1 z1_2 z1_3 z1_4 z1_5 z1_6 z1_7 z1_8 z1_9 z1_10 z2_0 z2_1 z2_2 z2_3 z2_4 z2_5 z2_6 z2_7 z2_8 z2_9 z2_10 z3_0 z3_1 z4_0 z4_1 z4_2 z4_3 z4_4 z4_5 z4_6 z4_7 z4_8 z4_9 z4_10
      clear hb6 HB
      by_cases h8 : 0 < ordI b.l a.l
      · have HL := Lib.hid (show b.l = if 0 < ordI b.l a.l then b.l else a.l by rw [if_pos h8])
        have d8 : decide (0 < ordI b.l a.l) = true := by simp [h8]
        have z0_0 := hS.cell 0 0 rfl rfl; have z0_1 := hS.cell 0 1 rfl rfl; have z0_2 := hS.cell 0 2 rfl rfl; have z0_3 := hS.cell 0 3 rfl rfl; have z0_4 := hS.cell 0 4 rfl rfl; have z0_5 := hS.cell 0 5 rfl rfl; have z0_6 := hS.cell 0 6 rfl rfl; have z0_7 := hS.cell 0 7 rfl rfl; have z0_8 := hS.cell 0 8 rfl rfl; have z0_9 := hS.cell 0 9 rfl rfl; have z0_10 := hS.cell 0 10 rfl rfl; have z1_0 := hS.cell 1 0 rfl rfl; have z1_1 := hS.cell 1 1 rfl rfl; have z1_2 := hS.cell 1 2 rfl rfl; have z1_3 := hS.cell 1 3 rfl rfl; have z1_4 := hS.cell 1 4 rfl rfl; have z1_5 := hS.cell 1 5 rfl rfl; have z1_6 := hS.cell 1 6 rfl rfl; have z1_7 := hS.cell 1 7 rfl rfl; have z1_8 := hS.cell 1 8 rfl rfl; have z1_9 := hS.cell 1 9 rfl rfl; have z1_10 := hS.cell 1 10 rfl rfl; have z2_0 := hS.cell 2 0 rfl rfl; have z2_1 := hS.cell 2 1 rfl rfl; have z2_2 := hS.cell 2 2 rfl rfl; have z2_3 := hS.cell 2 3 rfl rfl; have z2_4 := hS.cell 2 4 rfl rfl; have z2_5 := hS.cell 2 5 rfl rfl; have z2_6 := hS.cell 2 6 rfl rfl; have z2_7 := hS.cell 2 7 rfl rfl; have z2_8 := hS.cell 2 8 rfl rfl; have z2_9 := hS.cell 2 9 rfl rfl; have z2_10 := hS.cell 2 10 rfl rfl; have z3_0 := hS.cell 3 0 rfl rfl; have z3_1 := hS.cell 3 1 rfl rfl; have z4_0 := hS.cell 4 0 rfl rfl; have z4_1 := hS.cell 4 1 rfl rfl; have z4_2 := hS.cell 4 2 rfl rfl; have z4_3 := hS.cell 4 3 rfl rfl; have z4_4 := hS.cell 4 4 rfl rfl; have z4_5 := hS.cell 4 5 rfl rfl; have z4_6 := hS.cell 4 6 rfl rfl; have z4_7 := hS.cell 4 7 rfl rfl; have z4_8 := hS.cell 4 8 rfl rfl; have z4_9 := hS.cell 4 9 rfl rfl; have z4_10 := hS.cell 4 10 rfl rfl
        have zf0 := hS.free 0 rfl; have zf4 := hS.free 4 rfl
        have hs := ((hS.set 4 8 rfl (.int .i64 b.l.t)).set 4 9 rfl (.int .i64 b.l.v)).set 4 10 rfl (.int .i64 b.l.s)
        have HB := Lib.hid hs
        clear hS hs
        go_upto_region 17 with (fail)
        have hS : Own w [(x + 1 + 1, 28, #[.int .i64 0, .int .i64 0, .int .u64 0, .int .i64 0, .int .i64 0, .int .i64 0, .int .i64 0, .int .i64 0, .int .i64 0, .int .i64 0, .int .i64 0]), (x, 28, #[.int .i64 a.n, .int .i64 (hiOf a.s), .int .u64 (loOf a.s), .int .i64 a.lo, .int .i64 a.hi, .int .i64 a.f.t, .int .i64 a.f.v, .int .i64 a.f.s, .int .i64 a.l.t, .int .i64 a.l.v, .int .i64 a.l.s]), (x + 1, 28, #[.int .i64 b.n, .int .i64 (hiOf b.s), .int .u64 (loOf b.s), .int .i64 b.lo, .int .i64 b.hi, .int .i64 b.f.t, .int .i64 b.f.v, .int .i64 b.f.s, .int .i64 b.l.t, .int .i64 b.l.v, .int .i64 b.l.s]), (y, 24, #[.int .i64 (hiOf s), .int .u64 (loOf s)]), (z, 28, #[.int .i64 n, .int .i64 (hiOf s), .int .u64 (loOf s), .int .i64 m, .int .i64 M, .int .i64 b.f.t, .int .i64 b.f.v, .int .i64 b.f.s, .int .i64 b.l.t, .int .i64 b.l.v, .int .i64 b.l.s])] _ := HB.out
        clear z0_0 z0_1 z0_2 z0_3 z0_4 z0_5 z0_6 z0_7 z0_8 z0_9 z0_10 z1_0 z1_1 z1_2 z1_3 z1_4 z1_5 z1_6 z1_7 z1_8 z1_9 z1_10 z2_0 z2_1 z2_2 z2_3 z2_4 z2_5 z2_6 z2_7 z2_8 z2_9 z2_10 z3_0 z3_1 z4_0 z4_1 z4_2 z4_3 z4_4 z4_5 z4_6 z4_7 z4_8 z4_9 z4_10 zf0 zf4 HB
        generalize World.setCell _ _ _ = w7 at hS ⊢
        have z0_0 := hS.cell 0 0 rfl rfl; have z0_1 := hS.cell 0 1 rfl rfl; have z0_2 := hS.cell 0 2 rfl rfl; have z0_3 := hS.cell 0 3 rfl rfl; have z0_4 := hS.cell 0 4 rfl rfl; have z0_5 := hS.cell 0 5 rfl rfl; have z0_6 := hS.cell 0 6 rfl rfl; have z0_7 := hS.cell 0 7 rfl rfl; have z0_8 := hS.cell 0 8 rfl rfl; have z0_9 := hS.cell 0 9 rfl rfl; have z0_10 := hS.cell 0 10 rfl rfl; have z1_0 := hS.cell 1 0 rfl rfl; have z1_1 := hS.cell 1 1 rfl rfl; have z1_2 := hS.cell 1 2 rfl rfl; have z1_3 := hS.cell 1 3 rfl rfl; have z1_4 := hS.cell 1 4 rfl rfl; have z1_5 := hS.cell 1 5 rfl rfl; have z1_6 := hS.cell 1 6 rfl rfl; have z1_7 := hS.cell 1 7 rfl rfl; have z1_8 := hS.cell 1 8 rfl rfl; have z1_9 := hS.cell 1 9 rfl rfl; have z1_10 := hS.cell 1 10 rfl rfl; have z2_0 := hS.cell 2 0 rfl rfl; have z2_1 := hS.cell 2 1 rfl rfl; have z2_2 := hS.cell 2 2 rfl rfl; have z2_3 := hS.cell 2 3 rfl rfl; have z2_4 := hS.cell 2 4 rfl rfl; have z2_5 := hS.cell 2 5 rfl rfl; have z2_6 := hS.cell 2 6 rfl rfl; have z2_7 := hS.cell 2 7 rfl rfl; have z2_8 := hS.cell 2 8 rfl rfl; have z2_9 := hS.cell 2 9 rfl rfl; have z2_10 := hS.cell 2 10 rfl rfl; have z3_0 := hS.cell 3 0 rfl rfl; have z3_1 := hS.cell 3 1 rfl rfl; have z4_0 := hS.cell 4 0 rfl rfl; have z4_1 := hS.cell 4 1 rfl rfl; have z4_2 := hS.cell 4 2 rfl rfl; have z4_3 := hS.cell 4 3 rfl rfl; have z4_4 := hS.cell 4 4 rfl rfl; have z4_5 := hS.cell 4 5 rfl rfl; have z4_6 := hS.cell 4 6 rfl rfl; have z4_7 := hS.cell 4 7 rfl rfl; have z4_8 := hS.cell 4 8 rfl rfl; have z4_9 := hS.cell 4 9 rfl rfl; have z4_10 := hS.cell 4 10 rfl rfl
        have zf0 := hS.free 0 rfl; have zf4 := hS.free 4 rfl
        have HB := Lib.hid hS
        clear hS
        go_wp2_with fail
        have r := (OwnR.of HB.out rfl).put [.int .i64 n, .int .i64 (hiOf s), .int .u64 (loOf s), .int .i64 m, .int .i64 M, .int .i64 b.f.t, .int .i64 b.f.v, .int .i64 b.f.s, .int .i64 b.l.t, .int .i64 b.l.v, .int .i64 b.l.s] rfl
        exact bodyPost_ret (v := .tuple #[.agg #[.int .i64 n, .int .i64 (hiOf s), .int .u64 (loOf s), .int .i64 m, .int .i64 M, .int .i64 b.f.t, .int .i64 b.f.v, .int .i64 b.f.s, .int .i64 b.l.t, .int .i64 b.l.v, .int .i64 b.l.s], .int .i64 0]) (by simp [results, Tryd.results50, go_sem, z0_0, z0_1, z0_2, z0_3, z0_4, z0_5, z0_6, z0_7, z0_8, z0_9, z0_10]) rfl ⟨⟨n, s, m, M, b.f, b.l⟩, 0, HV.out _ _ HF.out HL.out, rfl, r.bel⟩
      · have HL := Lib.hid (show a.l = if 0 < ordI b.l a.l then b.l else a.l by rw [if_neg h8])
        have d8 : decide (0 < ordI b.l a.l) = false := by simp; omega
        have z0_0 := hS.cell 0 0 rfl rfl; have z0_1 := hS.cell 0 1 rfl rfl; have z0_2 := hS.cell 0 2 rfl rfl; have z0_3 := hS.cell 0 3 rfl rfl; have z0_4 := hS.cell 0 4 rfl rfl; have z0_5 := hS.cell 0 5 rfl rfl; have z0_6 := hS.cell 0 6 rfl rfl; have z0_7 := hS.cell 0 7 rfl rfl; have z0_8 := hS.cell 0 8 rfl rfl; have z0_9 := hS.cell 0 9 rfl rfl; have z0_10 := hS.cell 0 10 rfl rfl; have z1_0 := hS.cell 1 0 rfl rfl; have z1_1 := hS.cell 1 1 rfl rfl; have z1_2 := hS.cell 1 2 rfl rfl; have z1_3 := hS.cell 1 3 rfl rfl; have z1_4 := hS.cell 1 4 rfl rfl; have z1_5 := hS.cell 1 5 rfl rfl; have z1_6 := hS.cell 1 6 rfl rfl; have z1_7 := hS.cell 1 7 rfl rfl; have z1_8 := hS.cell 1 8 rfl rfl; have z1_9 := hS.cell 1 9 rfl rfl; have z1_10 := hS.cell 1 10 rfl rfl; have z2_0 := hS.cell 2 0 rfl rfl; have z2_1 := hS.cell 2 1 rfl rfl; have z2_2 := hS.cell 2 2 rfl rfl; have z2_3 := hS.cell 2 3 rfl rfl; have z2_4 := hS.cell 2 4 rfl rfl; have z2_5 := hS.cell 2 5 rfl rfl; have z2_6 := hS.cell 2 6 rfl rfl; have z2_7 := hS.cell 2 7 rfl rfl; have z2_8 := hS.cell 2 8 rfl rfl; have z2_9 := hS.cell 2 9 rfl rfl; have z2_10 := hS.cell 2 10 rfl rfl; have z3_0 := hS.cell 3 0 rfl rfl; have z3_1 := hS.cell 3 1 rfl rfl; have z4_0 := hS.cell 4 0 rfl rfl; have z4_1 := hS.cell 4 1 rfl rfl; have z4_2 := hS.cell 4 2 rfl rfl; have z4_3 := hS.cell 4 3 rfl rfl; have z4_4 := hS.cell 4 4 rfl rfl; have z4_5 := hS.cell 4 5 rfl rfl; have z4_6 := hS.cell 4 6 rfl rfl; have z4_7 := hS.cell 4 7 rfl rfl; have z4_8 := hS.cell 4 8 rfl rfl; have z4_9 := hS.cell 4 9 rfl rfl; have z4_10 := hS.cell 4 10 rfl rfl
        have zf0 := hS.free 0 rfl; have zf4 := hS.free 4 rfl
        have HB := Lib.hid hS
        clear hS
        go_wp2_with fail
        have r := (OwnR.of HB.out rfl).put [.int .i64 n, .int .i64 (hiOf s), .int .u64 (loOf s), .int .i64 m, .int .i64 M, .int .i64 b.f.t, .int .i64 b.f.v, .int .i64 b.f.s, .int .i64 a.l.t, .int .i64 a.l.v, .int .i64 a.l.s] rfl
        exact bodyPost_ret (v := .tuple #[.agg #[.int .i64 n, .int .i64 (hiOf s), .int .u64 (loOf s), .int .i64 m, .int .i64 M, .int .i64 b.f.t, .int .i64 b.f.v, .int .i64 b.f.s, .int .i64 a.l.t, .int .i64 a.l.v, .int .i64 a.l.s], .int .i64 0]) (by simp [results, Tryd.results50, go_sem, z0_0, z0_1, z0_2, z0_3, z0_4, z0_5, z0_6, z0_7, z0_8, z0_9, z0_10]) rfl ⟨⟨n, s, m, M, b.f, a.l⟩, 0, HV.out _ _ HF.out HL.out, rfl, r.bel⟩
    · have HF := Lib.hid (show a.f = if ordI b.f a.f < 0 then b.f else a.f by rw [if_neg h7])
      have d7 : decide (ordI b.f a.f < 0) = false := by simp; omega
      have z0_0 := hS.cell 0 0 rfl rfl; have z0_1 := hS.cell 0 1 rfl rfl; have z0_2 := hS.cell 0 2 rfl rfl; have z0_3 := hS.cell 0 3 rfl rfl; have z0_4 := hS.cell 0 4 rfl rfl; have z0_5 := hS.cell 0 5 rfl rfl; have z0_6 := hS.cell 0 6 rfl rfl; have z0_7 := hS.cell 0 7 rfl rfl; have z0_8 := hS.cell 0 8 rfl rfl; have z0_9 := hS.cell 0 9 rfl rfl; have z0_10 := hS.cell 0 10 rfl rfl; have z1_0 := hS.cell 1 0 rfl rfl; have z1_1 := hS.cell 1 1 rfl rfl; have z1_2 := hS.cell 1 2 rfl rfl; have z1_3 := hS.cell 1 3 rfl rfl; have z1_4 := hS.cell 1 4 rfl rfl; have z1_5 := hS.cell 1 5 rfl rfl; have z1_6 := hS.cell 1 6 rfl rfl; have z1_7 := hS.cell 1 7 rfl rfl; have z1_8 := hS.cell 1 8 rfl rfl; have z1_9 := hS.cell 1 9 rfl rfl; have z1_10 := hS.cell 1 10 rfl rfl; have z2_0 := hS.cell 2 0 rfl rfl; have z2_1 := hS.cell 2 1 rfl rfl; have z2_2 := hS.cell 2 2 rfl rfl; have z2_3 := hS.cell 2 3 rfl rfl; have z2_4 := hS.cell 2 4 rfl rfl; have z2_5 := hS.cell 2 5 rfl rfl; have z2_6 := hS.cell 2 6 rfl rfl; have z2_7 := hS.cell 2 7 rfl rfl; have z2_8 := hS.cell 2 8 rfl rfl; have z2_9 := hS.cell 2 9 rfl rfl; have z2_10 := hS.cell 2 10 rfl rfl; have z3_0 := hS.cell 3 0 rfl rfl; have z3_1 := hS.cell 3 1 rfl rfl; have z4_0 := hS.cell 4 0 rfl rfl; have z4_1 := hS.cell 4 1 rfl rfl; have z4_2 := hS.cell 4 2 rfl rfl; have z4_3 := hS.cell 4 3 rfl rfl; have z4_4 := hS.cell 4 4 rfl rfl; have z4_5 := hS.cell 4 5 rfl rfl; have z4_6 := hS.cell 4 6 rfl rfl; have z4_7 := hS.cell 4 7 rfl rfl; have z4_8 := hS.cell 4 8 rfl rfl; have z4_9 := hS.cell 4 9 rfl rfl; have z4_10 := hS.cell 4 10 rfl rfl
      have HB := Lib.hid hS
      clear hS
      go_wp2_with fail
      refine (order_any b.l a.l _).mono ?_
      rintro e w6 ⟨rfl, hb6⟩
      have hS := HB.out.call hb6
      clear z0_0 z0_1 z0_2 z0_3 z0_4 z0_5 z0_6 z0_7 z0_8 z0_9 z0_10 z1_0 z1_1 z1_2 z1_3 z1_4 z1_5 z1_6 z1_7 z1_8 z1_9 z1_10 z2_0 z2_1 z2_2 z2_3 z2_4 z2_5 z2_6 z2_7 z2_8 z2_9 z2_10 z3_0 z3_1 z4_0 z4_1 z4_2 z4_3 z4_4 z4_5 z4_6 z4_7 z4_8 z4_9 z4_10
      clear hb6 HB
      by_cases h8 : 0 < ordI b.l a.l
      · have HL := Lib.hid (show b.l = if 0 < ordI b.l a.l then b.l else a.l by rw [if_pos h8])
        have d8 : decide (0 < ordI b.l a.l) = true := by simp [h8]
        have z0_0 := hS.cell 0 0 rfl rfl; have z0_1 := hS.cell 0 1 rfl rfl; have z0_2 := hS.cell 0 2 rfl rfl; have z0_3 := hS.cell 0 3 rfl rfl; have z0_4 := hS.cell 0 4 rfl rfl; have z0_5 := hS.cell 0 5 rfl rfl; have z0_6 := hS.cell 0 6 rfl rfl; have z0_7 := hS.cell 0 7 rfl rfl; have z0_8 := hS.cell 0 8 rfl rfl; have z0_9 := hS.cell 0 9 rfl rfl; have z0_10 := hS.cell 0 10 rfl rfl; have z1_0 := hS.cell 1 0 rfl rfl; have z1_1 := hS.cell 1 1 rfl rfl; have z1_2 := hS.cell 1 2 rfl rfl; have z1_3 := hS.cell 1 3 rfl rfl; have z1_4 := hS.cell 1 4 rfl rfl; have z1_5 := hS.cell 1 5 rfl rfl; have z1_6 := hS.cell 1 6 rfl rfl; have z1_7 := hS.cell 1 7 rfl rfl; have z1_8 := hS.cell 1 8 rfl rfl; have z1_9 := hS.cell 1 9 rfl rfl; have z1_10 := hS.cell 1 10 rfl rfl; have z2_0 := hS.cell 2 0 rfl rfl; have z2_1 := hS.cell 2 1 rfl rfl; have z2_2 := hS.cell 2 2 rfl rfl; have z2_3 := hS.cell 2 3 rfl rfl; have z2_4 := hS.cell 2 4 rfl rfl; have z2_5 := hS.cell 2 5 rfl rfl; have z2_6 := hS.cell 2 6 rfl rfl; have z2_7 := hS.cell 2 7 rfl rfl; have z2_8 := hS.cell 2 8 rfl rfl; have z2_9 := hS.cell 2 9 rfl rfl; have z2_10 := hS.cell 2 10 rfl rfl; have z3_0 := hS.cell 3 0 rfl rfl; have z3_1 := hS.cell 3 1 rfl rfl; have z4_0 := hS.cell 4 0 rfl rfl; have z4_1 := hS.cell 4 1 rfl rfl; have z4_2 := hS.cell 4 2 rfl rfl; have z4_3 := hS.cell 4 3 rfl rfl; have z4_4 := hS.cell 4 4 rfl rfl; have z4_5 := hS.cell 4 5 rfl rfl; have z4_6 := hS.cell 4 6 rfl rfl; have z4_7 := hS.cell 4 7 rfl rfl; have z4_8 := hS.cell 4 8 rfl rfl; have z4_9 := hS.cell 4 9 rfl rfl; have z4_10 := hS.cell 4 10 rfl rfl
        have zf0 := hS.free 0 rfl; have zf4 := hS.free 4 rfl
        have hs := ((hS.set 4 8 rfl (.int .i64 b.l.t)).set 4 9 rfl (.int .i64 b.l.v)).set 4 10 rfl (.int .i64 b.l.s)
        have HB := Lib.hid hs
        clear hS hs
        go_upto_region 17 with (fail)
        have hS : Own w [(x + 1 + 1, 28, #[.int .i64 0, .int .i64 0, .int .u64 0, .int .i64 0, .int .i64 0, .int .i64 0, .int .i64 0, .int .i64 0, .int .i64 0, .int .i64 0, .int .i64 0]), (x, 28, #[.int .i64 a.n, .int .i64 (hiOf a.s), .int .u64 (loOf a.s), .int .i64 a.lo, .int .i64 a.hi, .int .i64 a.f.t, .int .i64 a.f.v, .int .i64 a.f.s, .int .i64 a.l.t, .int .i64 a.l.v, .int .i64 a.l.s]), (x + 1, 28, #[.int .i64 b.n, .int .i64 (hiOf b.s), .int .u64 (loOf b.s), .int .i64 b.lo, .int .i64 b.hi, .int .i64 b.f.t, .int .i64 b.f.v, .int .i64 b.f.s, .int .i64 b.l.t, .int .i64 b.l.v, .int .i64 b.l.s]), (y, 24, #[.int .i64 (hiOf s), .int .u64 (loOf s)]), (z, 28, #[.int .i64 n, .int .i64 (hiOf s), .int .u64 (loOf s), .int .i64 m, .int .i64 M, .int .i64 a.f.t, .int .i64 a.f.v, .int .i64 a.f.s, .int .i64 b.l.t, .int .i64 b.l.v, .int .i64 b.l.s])] _ := HB.out
        clear z0_0 z0_1 z0_2 z0_3 z0_4 z0_5 z0_6 z0_7 z0_8 z0_9 z0_10 z1_0 z1_1 z1_2 z1_3 z1_4 z1_5 z1_6 z1_7 z1_8 z1_9 z1_10 z2_0 z2_1 z2_2 z2_3 z2_4 z2_5 z2_6 z2_7 z2_8 z2_9 z2_10 z3_0 z3_1 z4_0 z4_1 z4_2 z4_3 z4_4 z4_5 z4_6 z4_7 z4_8 z4_9 z4_10 zf0 zf4 HB
        generalize World.setCell _ _ _ = w7 at hS ⊢
        have z0_0 := hS.cell 0 0 rfl rfl; have z0_1 := hS.cell 0 1 rfl rfl; have z0_2 := hS.cell 0 2 rfl rfl; have z0_3 := hS.cell 0 3 rfl rfl; have z0_4 := hS.cell 0 4 rfl rfl; have z0_5 := hS.cell 0 5 rfl rfl; have z0_6 := hS.cell 0 6 rfl rfl; have z0_7 := hS.cell 0 7 rfl rfl; have z0_8 := hS.cell 0 8 rfl rfl; have z0_9 := hS.cell 0 9 rfl rfl; have z0_10 := hS.cell 0 10 rfl rfl; have z1_0 := hS.cell 1 0 rfl rfl; have z1_1 := hS.cell 1 1 rfl rfl; have z1_2 := hS.cell 1 2 rfl rfl; have z1_3 := hS.cell 1 3 rfl rfl; have z1_4 := hS.cell 1 4 rfl rfl; have z1_5 := hS.cell 1 5 rfl rfl; have z1_6 := hS.cell 1 6 rfl rfl; have z1_7 := hS.cell 1 7 rfl rfl; have z1_8 := hS.cell 1 8 rfl rfl; have z1_9 := hS.cell 1 9 rfl rfl; have z1_10 := hS.cell 1 10 rfl rfl; have z2_0 := hS.cell 2 0 rfl rfl; have z2_1 := hS.cell 2 1 rfl rfl; have z2_2 := hS.cell 2 2 rfl rfl; have z2_3 := hS.cell 2 3 rfl rfl; have z2_4 := hS.cell 2 4 rfl rfl; have z2_5 := hS.cell 2 5 rfl rfl; have z2_6 := hS.cell 2 6 rfl rfl; have z2_7 := hS.cell 2 7 rfl rfl; have z2_8 := hS.cell 2 8 rfl rfl; have z2_9 := hS.cell 2 9 rfl rfl; have z2_10 := hS.cell 2 10 rfl rfl; have z3_0 := hS.cell 3 0 rfl rfl; have z3_1 := hS.cell 3 1 rfl rfl; have z4_0 := hS.cell 4 0 rfl rfl; have z4_1 := hS.cell 4 1 rfl rfl; have z4_2 := hS.cell 4 2 rfl rfl; have z4_3 := hS.cell 4 3 rfl rfl; have z4_4 := hS.cell 4 4 rfl rfl; have z4_5 := hS.cell 4 5 rfl rfl; have z4_6 := hS.cell 4 6 rfl rfl; have z4_7 := hS.cell 4 7 rfl rfl; have z4_8 := hS.cell 4 8 rfl rfl; have z4_9 := hS.cell 4 9 rfl rfl; have z4_10 := hS.cell 4 10 rfl rfl
        have zf0 := hS.free 0 rfl; have zf4 := hS.free 4 rfl
        have HB := Lib.hid hS
        clear hS
        go_wp2_with fail
        have r := (OwnR.of HB.out rfl).put [.int .i64 n, .int .i64 (hiOf s), .int .u64 (loOf s), .int .i64 m, .int .i64 M, .int .i64 a.f.t, .int .i64 a.f.v, .int .i64 a.f.s, .int .i64 b.l.t, .int .i64 b.l.v, .int .i64 b.l.s] rfl
        exact bodyPost_ret (v := .tuple #[.agg #[.int .i64 n, .int .i64 (hiOf s), .int .u64 (loOf s), .int .i64 m, .int .i64 M, .int .i64 a.f.t, .int .i64 a.f.v, .int .i64 a.f.s, .int .i64 b.l.t, .int .i64 b.l.v, .int .i64 b.l.s], .int .i64 0]) (by simp [results, Tryd.results50, go_sem, z0_0, z0_1, z0_2, z0_3, z0_4, z0_5, z0_6, z0_7, z0_8, z0_9, z0_10]) rfl ⟨⟨n, s, m, M, a.f, b.l⟩, 0, HV.out _ _ HF.out HL.out, rfl, r.bel⟩
      · have HL := Lib.hid (show a.l = if 0 < ordI b.l a.l then b.l else a.l by rw [if_neg h8])
        have d8 : decide (0 < ordI b.l a.l) = false := by simp; omega
        have z0_0 := hS.cell 0 0 rfl rfl; have z0_1 := hS.cell 0 1 rfl rfl; have z0_2 := hS.cell 0 2 rfl rfl; have z0_3 := hS.cell 0 3 rfl rfl; have z0_4 := hS.cell 0 4 rfl rfl; have z0_5 := hS.cell 0 5 rfl rfl; have z0_6 := hS.cell 0 6 rfl rfl; have z0_7 := hS.cell 0 7 rfl rfl; have z0_8 := hS.cell 0 8 rfl rfl; have z0_9 := hS.cell 0 9 rfl rfl; have z0_10 := hS.cell 0 10 rfl rfl; have z1_0 := hS.cell 1 0 rfl rfl; have z1_1 := hS.cell 1 1 rfl rfl; have z1_2 := hS.cell 1 2 rfl rfl; have z1_3 := hS.cell 1 3 rfl rfl; have z1_4 := hS.cell 1 4 rfl rfl; have z1_5 := hS.cell 1 5 rfl rfl; have z1_6 := hS.cell 1 6 rfl rfl; have z1_7 := hS.cell 1 7 rfl rfl; have z1_8 := hS.cell 1 8 rfl rfl; have z1_9 := hS.cell 1 9 rfl rfl; have z1_10 := hS.cell 1 10 rfl rfl; have z2_0 := hS.cell 2 0 rfl rfl; have z2_1 := hS.cell 2 1 rfl rfl; have z2_2 := hS.cell 2 2 rfl rfl; have z2_3 := hS.cell 2 3 rfl rfl; have z2_4 := hS.cell 2 4 rfl rfl; have z2_5 := hS.cell 2 5 rfl rfl; have z2_6 := hS.cell 2 6 rfl rfl; have z2_7 := hS.cell 2 7 rfl rfl; have z2_8 := hS.cell 2 8 rfl rfl; have z2_9 := hS.cell 2 9 rfl rfl; have z2_10 := hS.cell 2 10 rfl rfl; have z3_0 := hS.cell 3 0 rfl rfl; have z3_1 := hS.cell 3 1 rfl rfl; have z4_0 := hS.cell 4 0 rfl rfl; have z4_1 := hS.cell 4 1 rfl rfl; have z4_2 := hS.cell 4 2 rfl rfl; have z4_3 := hS.cell 4 3 rfl rfl; have z4_4 := hS.cell 4 4 rfl rfl; have z4_5 := hS.cell 4 5 rfl rfl; have z4_6 := hS.cell 4 6 rfl rfl; have z4_7 := hS.cell 4 7 rfl rfl; have z4_8 := hS.cell 4 8 rfl rfl; have z4_9 := hS.cell 4 9 rfl rfl; have z4_10 := hS.cell 4 10 rfl rfl
        have zf0 := hS.free 0 rfl; have zf4 := hS.free 4 rfl
        have HB := Lib.hid hS
        clear hS
        go_wp2_with fail
        have r := (OwnR.of HB.out rfl).put [.int .i64 n, .int .i64 (hiOf s), .int .u64 (loOf s), .int .i64 m, .int .i64 M, .int .i64 a.f.t, .int .i64 a.f.v, .int .i64 a.f.s, .int .i64 a.l.t, .int .i64 a.l.v, .int .i64 a.l.s] rfl
        exact bodyPost_ret (v := .tuple #[.agg #[.int .i64 n, .int .i64 (hiOf s), .int .u64 (loOf s), .int .i64 m, .int .i64 M, .int .i64 a.f.t, .int .i64 a.f.v, .int .i64 a.f.s, .int .i64 a.l.t, .int .i64 a.l.v, .int .i64 a.l.s], .int .i64 0]) (by simp [results, Tryd.results50, go_sem, z0_0, z0_1, z0_2, z0_3, z0_4, z0_5, z0_6, z0_7, z0_8, z0_9, z0_10]) rfl ⟨⟨n, s, m, M, a.f, a.l⟩, 0, HV.out _ _ HF.out HL.out, rfl, r.bel⟩
  · have o2 := o1.alloc hy 24 #[.int .i64 0, .int .u64 0]
    have HZ := Lib.hid (show mergeR a b = (zeroA, 3) by rw [HR.out, if_pos (.inl hfit)])
    have HS := Lib.hid (And.intro hfit (And.intro hy o2))
    clear hfit hy o1 o2 hb1
    go_upto_region 10 with (fail)
    rw [← HO.out.1, ← HS.out.2.1]
    have hS := HS.out.2.2
    generalize w1.alloc _ = w2 at hS ⊢
    have z0_0 := hS.cell 0 0 rfl rfl; have z0_1 := hS.cell 0 1 rfl rfl; have z0_2 := hS.cell 0 2 rfl rfl; have z0_3 := hS.cell 0 3 rfl rfl; have z0_4 := hS.cell 0 4 rfl rfl; have z0_5 := hS.cell 0 5 rfl rfl; have z0_6 := hS.cell 0 6 rfl rfl; have z0_7 := hS.cell 0 7 rfl rfl; have z0_8 := hS.cell 0 8 rfl rfl; have z0_9 := hS.cell 0 9 rfl rfl; have z0_10 := hS.cell 0 10 rfl rfl; have z1_0 := hS.cell 1 0 rfl rfl; have z1_1 := hS.cell 1 1 rfl rfl; have z1_2 := hS.cell 1 2 rfl rfl; have z1_3 := hS.cell 1 3 rfl rfl; have z1_4 := hS.cell 1 4 rfl rfl; have z1_5 := hS.cell 1 5 rfl rfl; have z1_6 := hS.cell 1 6 rfl rfl; have z1_7 := hS.cell 1 7 rfl rfl; have z1_8 := hS.cell 1 8 rfl rfl; have z1_9 := hS.cell 1 9 rfl rfl; have z1_10 := hS.cell 1 10 rfl rfl; have z2_0 := hS.cell 2 0 rfl rfl; have z2_1 := hS.cell 2 1 rfl rfl; have z2_2 := hS.cell 2 2 rfl rfl; have z2_3 := hS.cell 2 3 rfl rfl; have z2_4 := hS.cell 2 4 rfl rfl; have z2_5 := hS.cell 2 5 rfl rfl; have z2_6 := hS.cell 2 6 rfl rfl; have z2_7 := hS.cell 2 7 rfl rfl; have z2_8 := hS.cell 2 8 rfl rfl; have z2_9 := hS.cell 2 9 rfl rfl; have z2_10 := hS.cell 2 10 rfl rfl; have z3_0 := hS.cell 3 0 rfl rfl; have z3_1 := hS.cell 3 1 rfl rfl
    have zf0 := hS.free 0 rfl
    have HT := Lib.hid hS
    clear hS
    go_wp2_with fail
    exact bodyPost_ret (v := .tuple #[.agg #[.int .i64 0, .int .i64 0, .int .u64 0, .int .i64 0, .int .i64 0, .int .i64 0, .int .i64 0, .int .i64 0, .int .i64 0, .int .i64 0, .int .i64 0], .int .i64 3]) (by simp [results, Tryd.results50, go_sem, z0_0, z0_1, z0_2, z0_3, z0_4, z0_5, z0_6, z0_7, z0_8, z0_9, z0_10]) rfl ⟨zeroA, 3, HZ.out, rfl, ((OwnR.of HT.out rfl).put [.int .i64 0, .int .i64 0, .int .u64 0, .int .i64 0, .int .i64 0, .int .i64 0, .int .i64 0, .int .i64 0, .int .i64 0, .int .i64 0, .int .i64 0] rfl).bel⟩
end Go.Proofs.YthhgnngpaagagaaDoor
