/-
  The contract of aggr.Valid. (Printed by genAgL.py and mk.py.)
-/
import Derived.Test.YthhgnngpaagagaaDoorAgE
import Derived.Test.YthhgnngpaagagaaDoorAgK
import Derived.Test.YthhgnngpaagagaaDoorEqP
import Derived.Deep.DeepCutAuto
namespace Go.Proofs.YthhgnngpaagagaaDoor
open Go.RowKit
set_option linter.unusedVariables false
set_option linter.unusedSimpArgs false
def isZ (a : Ag) : Bool := decide (a.n = 0 ∧ hiOf a.s = 0 ∧ loOf a.s = 0 ∧ a.lo = 0 ∧ a.hi = 0 ∧ a.f.t = 0 ∧ a.f.v = 0 ∧ a.f.s = 0 ∧ a.l.t = 0 ∧ a.l.v = 0 ∧ a.l.s = 0)
def validA (a : Ag) : Bool :=
  if a.n = 0 then isZ a else
  if ¬ 0 < a.n then false else if 4611686018427387904 < a.n then false else if a.hi < a.lo then false else
  if ¬ (a.lo ≤ a.f.v ∧ a.f.v ≤ a.hi) then false else if ¬ (a.lo ≤ a.l.v ∧ a.l.v ≤ a.hi) then false else if ordI a.l a.f < 0 then false else
  if a.s < a.lo * a.n then false else if a.hi * a.n < a.s then false else
  if 1 < a.n then true else if eqP a.f a.l = false then false else decide (a.lo = a.hi)
def BoolPost (b : Bool) (w : World) (e : Ending) (w' : World) : Prop := e = .returned (.bool b) ∧ Below w.heap.size w w'
set_option maxRecDepth 100000 in
set_option maxHeartbeats 1000000 in
theorem between_any (a : Ag) (n : Int) (w : World) : Calls Tryd.prog 19 #[.agg #[.int .i64 a.n, .int .i64 (hiOf a.s), .int .u64 (loOf a.s), .int .i64 a.lo, .int .i64 a.hi, .int .i64 a.f.t, .int .i64 a.f.v, .int .i64 a.f.s, .int .i64 a.l.t, .int .i64 a.l.v, .int .i64 a.l.s, .bool true], .int .i64 n] w (BoolPost (decide (a.lo ≤ n ∧ n ≤ a.hi)) w) := by
  have o0 : Own w [_] _ := Own.own1 w rfl 60 #[.int .i64 a.n, .int .i64 (hiOf a.s), .int .u64 (loOf a.s), .int .i64 a.lo, .int .i64 a.hi, .int .i64 a.f.t, .int .i64 a.f.v, .int .i64 a.f.s, .int .i64 a.l.t, .int .i64 a.l.v, .int .i64 a.l.s, .bool true]
  have HO := Lib.hid o0.bel
  clear o0
  by_cases h1 : a.lo ≤ n
  · by_cases h2 : n ≤ a.hi
    · have hf : decide (a.lo ≤ n ∧ n ≤ a.hi) = true := by simp [h1, h2]
      rw [hf]
      clear hf
      go_enter Tryd.func19, Tryd.ntmps19
      go_wp2_with fail
      go_ret
      exact ⟨rfl, HO.out⟩
    · have hf : decide (a.lo ≤ n ∧ n ≤ a.hi) = false := by simp [h1]; omega
      rw [hf]
      have d2 : decide (n ≤ a.hi) = false := by simp; omega
      clear hf h2
      go_enter Tryd.func19, Tryd.ntmps19
      go_wp2_with fail
      go_ret
      exact ⟨rfl, HO.out⟩
  · have hf : decide (a.lo ≤ n ∧ n ≤ a.hi) = false := by simp [h1]
    rw [hf]
    have d2 : decide (a.lo ≤ n) = false := by simp; omega
    clear hf h1
    go_enter Tryd.func19, Tryd.ntmps19
    go_wp2_with fail
    go_ret
    exact ⟨rfl, HO.out⟩
set_option maxRecDepth 100000 in
set_option maxHeartbeats 8000000 in
theorem valid_any (a : Ag) (ha : AgOk a) (w : World) : Calls Tryd.prog 7 #[.agg #[.int .i64 a.n, .int .i64 (hiOf a.s), .int .u64 (loOf a.s), .int .i64 a.lo, .int .i64 a.hi, .int .i64 a.f.t, .int .i64 a.f.v, .int .i64 a.f.s, .int .i64 a.l.t, .int .i64 a.l.v, .int .i64 a.l.s]] w (BoolPost (validA a) w) := by
  obtain ⟨x, hx⟩ : ∃ x, x = w.heap.size := ⟨_, rfl⟩
  have o1 : Own w [(x, 28, #[.int .i64 a.n, .int .i64 (hiOf a.s), .int .u64 (loOf a.s), .int .i64 a.lo, .int .i64 a.hi, .int .i64 a.f.t, .int .i64 a.f.v, .int .i64 a.f.s, .int .i64 a.l.t, .int .i64 a.l.v, .int .i64 a.l.s])] _ := Own.own1 w hx _ _
  have o2 : Own w [(x, 28, #[.int .i64 a.n, .int .i64 (hiOf a.s), .int .u64 (loOf a.s), .int .i64 a.lo, .int .i64 a.hi, .int .i64 a.f.t, .int .i64 a.f.v, .int .i64 a.f.s, .int .i64 a.l.t, .int .i64 a.l.v, .int .i64 a.l.s]), (x + 1, 60, #[.int .i64 a.n, .int .i64 (hiOf a.s), .int .u64 (loOf a.s), .int .i64 a.lo, .int .i64 a.hi, .int .i64 a.f.t, .int .i64 a.f.v, .int .i64 a.f.s, .int .i64 a.l.t, .int .i64 a.l.v, .int .i64 a.l.s, .bool true])] _ := o1.alloc (by simp [hx]) _ _
  have o3 : Own w [(x, 28, #[.int .i64 a.n, .int .i64 (hiOf a.s), .int .u64 (loOf a.s), .int .i64 a.lo, .int .i64 a.hi, .int .i64 a.f.t, .int .i64 a.f.v, .int .i64 a.f.s, .int .i64 a.l.t, .int .i64 a.l.v, .int .i64 a.l.s]), (x + 1, 60, #[.int .i64 a.n, .int .i64 (hiOf a.s), .int .u64 (loOf a.s), .int .i64 a.lo, .int .i64 a.hi, .int .i64 a.f.t, .int .i64 a.f.v, .int .i64 a.f.s, .int .i64 a.l.t, .int .i64 a.l.v, .int .i64 a.l.s, .bool false])] _ := o1.alloc (by simp [hx]) _ _
  have lo : I64 a.lo := ha.2.2.1
  have hi : I64 a.hi := ha.2.2.2
  have HO := Lib.hid (And.intro hx (And.intro (And.intro o1.bel (And.intro o2 o3.bel)) (And.intro lo (And.intro hi ha))))
  clear hx o1 o2 o3 lo hi ha
  by_cases c0 : a.n = 0
  · have d0 : (a.n == 0) = true := by simp [c0]
    by_cases hz : (a.n = 0 ∧ hiOf a.s = 0 ∧ loOf a.s = 0 ∧ a.lo = 0 ∧ a.hi = 0 ∧ a.f.t = 0 ∧ a.f.v = 0 ∧ a.f.s = 0 ∧ a.l.t = 0 ∧ a.l.v = 0 ∧ a.l.s = 0)
    · have hv : validA a = true := by unfold validA isZ; rw [if_pos c0]; simp only [hz, decide_true, and_self]
      rw [hv]
      obtain ⟨z1, z2, z3, z4, z5, z6, z7, z8, z9, z10, z11⟩ := hz
      have HB := Lib.hid HO.out.2.1.1
      rw [z1, z2, z3, z4, z5, z6, z7, z8, z9, z10, z11] at HB
      clear hv c0 HO d0
      rw [z1, z2, z3, z4, z5, z6, z7, z8, z9, z10, z11]
      clear z1 z2 z3 z4 z5 z6 z7 z8 z9 z10 z11
      go_enter Tryd.func7, Tryd.ntmps7
      go_wp2_with fail
      go_ret
      exact ⟨rfl, HB.out⟩
    · have hv : validA a = false := by unfold validA isZ; rw [if_pos c0]; simp only [hz, decide_false]
      rw [hv]
      have HZ := Lib.hid (And.intro c0 hz)
      have HB := Lib.hid HO.out.2.1.1
      clear hv c0 HO hz
      go_enter Tryd.func7, Tryd.ntmps7
      go_wp2_with fail
      all_goals first | exact absurd ⟨HZ.out.1, by assumption, by assumption, by assumption, by assumption, by assumption, by assumption, by assumption, by assumption, by assumption, by assumption⟩ HZ.out.2 | (go_ret; exact ⟨rfl, (Own.own1 w rfl _ _).bel⟩)
  have d0 : (a.n == 0) = false := by simp [c0]
  by_cases c1 : 0 < a.n
  rotate_left
  · have hv : validA a = false := by unfold validA; rw [if_neg c0, if_pos c1]
    rw [hv]
    have d1 : decide (0 < a.n) = false := by simp; omega
    clear hv c0 c1
    go_enter Tryd.func7, Tryd.ntmps7
    go_wp2_with fail
    go_ret
    exact ⟨rfl, HO.out.2.1.2.2⟩
  have d1 : decide (0 < a.n) = true := by simp [c1]
  by_cases c2 : 4611686018427387904 < a.n
  · have hv : validA a = false := by unfold validA; rw [if_neg c0, if_neg (by omega), if_pos c2]
    rw [hv]
    have d2 : decide (a.n ≤ 4611686018427387904) = false := by simp; omega
    clear hv c0 c2
    go_enter Tryd.func7, Tryd.ntmps7
    go_wp2_with fail
    go_ret
    exact ⟨rfl, HO.out.2.1.2.2⟩
  have d2 : decide (a.n ≤ 4611686018427387904) = true := by simp; omega
  by_cases c3 : a.hi < a.lo
  · have hv : validA a = false := by unfold validA; rw [if_neg c0, if_neg (by omega), if_neg c2, if_pos c3]
    rw [hv]
    have d3 : decide (a.lo ≤ a.hi) = false := by simp; omega
    clear hv c0 c2 c3
    go_enter Tryd.func7, Tryd.ntmps7
    go_wp2_with fail
    go_ret
    exact ⟨rfl, HO.out.2.1.2.2⟩
  have d3 : decide (a.lo ≤ a.hi) = true := by simp; omega
  have hv : validA a = (if ¬ (a.lo ≤ a.f.v ∧ a.f.v ≤ a.hi) then false else if ¬ (a.lo ≤ a.l.v ∧ a.l.v ≤ a.hi) then false else if ordI a.l a.f < 0 then false else
    if a.s < a.lo * a.n then false else if a.hi * a.n < a.s then false else if 1 < a.n then true else if eqP a.f a.l = false then false else decide (a.lo = a.hi)) := by
    unfold validA; rw [if_neg c0, if_neg (by omega), if_neg c2, if_neg c3]
  obtain ⟨bv, hbv⟩ : ∃ bv, bv = validA a := ⟨_, rfl⟩
  rw [← hbv]
  have HV := Lib.hid (hbv.trans hv)
  clear hv hbv
  have c2' : a.n ≤ 4611686018427387904 := by omega
  clear c0 c2 c3
  go_enter Tryd.func7, Tryd.ntmps7
  go_upto_region 4 with (fail)
  clear d0 d1 d2 d3
  rw [← HO.out.1]
  refine wp_gen (Own w [(x, 28, #[.int .i64 a.n, .int .i64 (hiOf a.s), .int .u64 (loOf a.s), .int .i64 a.lo, .int .i64 a.hi, .int .i64 a.f.t, .int .i64 a.f.v, .int .i64 a.f.s, .int .i64 a.l.t, .int .i64 a.l.v, .int .i64 a.l.s]), (x + 1, 60, #[.int .i64 a.n, .int .i64 (hiOf a.s), .int .u64 (loOf a.s), .int .i64 a.lo, .int .i64 a.hi, .int .i64 a.f.t, .int .i64 a.f.v, .int .i64 a.f.s, .int .i64 a.l.t, .int .i64 a.l.v, .int .i64 a.l.s, .bool true])]) HO.out.2.1.2.1 ?_
  intro w2 hS
  have z0_0 := hS.cell 0 0 rfl rfl; have z0_1 := hS.cell 0 1 rfl rfl; have z0_2 := hS.cell 0 2 rfl rfl; have z0_3 := hS.cell 0 3 rfl rfl; have z0_4 := hS.cell 0 4 rfl rfl; have z0_5 := hS.cell 0 5 rfl rfl; have z0_6 := hS.cell 0 6 rfl rfl; have z0_7 := hS.cell 0 7 rfl rfl; have z0_8 := hS.cell 0 8 rfl rfl; have z0_9 := hS.cell 0 9 rfl rfl; have z0_10 := hS.cell 0 10 rfl rfl; have z1_0 := hS.cell 1 0 rfl rfl; have z1_1 := hS.cell 1 1 rfl rfl; have z1_2 := hS.cell 1 2 rfl rfl; have z1_3 := hS.cell 1 3 rfl rfl; have z1_4 := hS.cell 1 4 rfl rfl; have z1_5 := hS.cell 1 5 rfl rfl; have z1_6 := hS.cell 1 6 rfl rfl; have z1_7 := hS.cell 1 7 rfl rfl; have z1_8 := hS.cell 1 8 rfl rfl; have z1_9 := hS.cell 1 9 rfl rfl; have z1_10 := hS.cell 1 10 rfl rfl; have z1_11 := hS.cell 1 11 rfl rfl
  have HS := Lib.hid hS
  clear hS
  go_wp2_with fail
  refine (between_any a a.f.v _).mono ?_
  rintro e w3 ⟨rfl, hb⟩
  have hS := HS.out.call hb
  clear HS hb z0_0 z0_1 z0_2 z0_3 z0_4 z0_5 z0_6 z0_7 z0_8 z0_9 z0_10 z1_0 z1_1 z1_2 z1_3 z1_4 z1_5 z1_6 z1_7 z1_8 z1_9 z1_10 z1_11
  by_cases c4 : (a.lo ≤ a.f.v ∧ a.f.v ≤ a.hi)
  rotate_left
  · rw [decide_eq_false c4]
    have z0_0 := hS.cell 0 0 rfl rfl; have z0_1 := hS.cell 0 1 rfl rfl; have z0_2 := hS.cell 0 2 rfl rfl; have z0_3 := hS.cell 0 3 rfl rfl; have z0_4 := hS.cell 0 4 rfl rfl; have z0_5 := hS.cell 0 5 rfl rfl; have z0_6 := hS.cell 0 6 rfl rfl; have z0_7 := hS.cell 0 7 rfl rfl; have z0_8 := hS.cell 0 8 rfl rfl; have z0_9 := hS.cell 0 9 rfl rfl; have z0_10 := hS.cell 0 10 rfl rfl; have z1_0 := hS.cell 1 0 rfl rfl; have z1_1 := hS.cell 1 1 rfl rfl; have z1_2 := hS.cell 1 2 rfl rfl; have z1_3 := hS.cell 1 3 rfl rfl; have z1_4 := hS.cell 1 4 rfl rfl; have z1_5 := hS.cell 1 5 rfl rfl; have z1_6 := hS.cell 1 6 rfl rfl; have z1_7 := hS.cell 1 7 rfl rfl; have z1_8 := hS.cell 1 8 rfl rfl; have z1_9 := hS.cell 1 9 rfl rfl; have z1_10 := hS.cell 1 10 rfl rfl; have z1_11 := hS.cell 1 11 rfl rfl
    have HS := Lib.hid hS
    clear hS
    have HF := Lib.hid (show bv = false by rw [HV.out, if_pos c4])
    go_wp2_with fail
    go_ret
    exact ⟨by first | (rw [HF.out]; done) | (rw [HF.out]; rfl), HS.out.bel⟩
  rw [decide_eq_true c4]
  have z0_0 := hS.cell 0 0 rfl rfl; have z0_1 := hS.cell 0 1 rfl rfl; have z0_2 := hS.cell 0 2 rfl rfl; have z0_3 := hS.cell 0 3 rfl rfl; have z0_4 := hS.cell 0 4 rfl rfl; have z0_5 := hS.cell 0 5 rfl rfl; have z0_6 := hS.cell 0 6 rfl rfl; have z0_7 := hS.cell 0 7 rfl rfl; have z0_8 := hS.cell 0 8 rfl rfl; have z0_9 := hS.cell 0 9 rfl rfl; have z0_10 := hS.cell 0 10 rfl rfl; have z1_0 := hS.cell 1 0 rfl rfl; have z1_1 := hS.cell 1 1 rfl rfl; have z1_2 := hS.cell 1 2 rfl rfl; have z1_3 := hS.cell 1 3 rfl rfl; have z1_4 := hS.cell 1 4 rfl rfl; have z1_5 := hS.cell 1 5 rfl rfl; have z1_6 := hS.cell 1 6 rfl rfl; have z1_7 := hS.cell 1 7 rfl rfl; have z1_8 := hS.cell 1 8 rfl rfl; have z1_9 := hS.cell 1 9 rfl rfl; have z1_10 := hS.cell 1 10 rfl rfl; have z1_11 := hS.cell 1 11 rfl rfl
  have HS := Lib.hid hS
  clear hS
  go_wp2_with fail
  refine (between_any a a.l.v _).mono ?_
  rintro e w4 ⟨rfl, hb⟩
  have hS := HS.out.call hb
  clear HS hb z0_0 z0_1 z0_2 z0_3 z0_4 z0_5 z0_6 z0_7 z0_8 z0_9 z0_10 z1_0 z1_1 z1_2 z1_3 z1_4 z1_5 z1_6 z1_7 z1_8 z1_9 z1_10 z1_11
  by_cases c5 : (a.lo ≤ a.l.v ∧ a.l.v ≤ a.hi)
  rotate_left
  · rw [decide_eq_false c5]
    have z0_0 := hS.cell 0 0 rfl rfl; have z0_1 := hS.cell 0 1 rfl rfl; have z0_2 := hS.cell 0 2 rfl rfl; have z0_3 := hS.cell 0 3 rfl rfl; have z0_4 := hS.cell 0 4 rfl rfl; have z0_5 := hS.cell 0 5 rfl rfl; have z0_6 := hS.cell 0 6 rfl rfl; have z0_7 := hS.cell 0 7 rfl rfl; have z0_8 := hS.cell 0 8 rfl rfl; have z0_9 := hS.cell 0 9 rfl rfl; have z0_10 := hS.cell 0 10 rfl rfl; have z1_0 := hS.cell 1 0 rfl rfl; have z1_1 := hS.cell 1 1 rfl rfl; have z1_2 := hS.cell 1 2 rfl rfl; have z1_3 := hS.cell 1 3 rfl rfl; have z1_4 := hS.cell 1 4 rfl rfl; have z1_5 := hS.cell 1 5 rfl rfl; have z1_6 := hS.cell 1 6 rfl rfl; have z1_7 := hS.cell 1 7 rfl rfl; have z1_8 := hS.cell 1 8 rfl rfl; have z1_9 := hS.cell 1 9 rfl rfl; have z1_10 := hS.cell 1 10 rfl rfl; have z1_11 := hS.cell 1 11 rfl rfl
    have HS := Lib.hid hS
    clear hS
    have HF := Lib.hid (show bv = false by rw [HV.out, if_neg (fun h => h c4), if_pos c5])
    go_wp2_with fail
    go_ret
    exact ⟨by first | (rw [HF.out]; done) | (rw [HF.out]; rfl), HS.out.bel⟩
  rw [decide_eq_true c5]
  have z0_0 := hS.cell 0 0 rfl rfl; have z0_1 := hS.cell 0 1 rfl rfl; have z0_2 := hS.cell 0 2 rfl rfl; have z0_3 := hS.cell 0 3 rfl rfl; have z0_4 := hS.cell 0 4 rfl rfl; have z0_5 := hS.cell 0 5 rfl rfl; have z0_6 := hS.cell 0 6 rfl rfl; have z0_7 := hS.cell 0 7 rfl rfl; have z0_8 := hS.cell 0 8 rfl rfl; have z0_9 := hS.cell 0 9 rfl rfl; have z0_10 := hS.cell 0 10 rfl rfl; have z1_0 := hS.cell 1 0 rfl rfl; have z1_1 := hS.cell 1 1 rfl rfl; have z1_2 := hS.cell 1 2 rfl rfl; have z1_3 := hS.cell 1 3 rfl rfl; have z1_4 := hS.cell 1 4 rfl rfl; have z1_5 := hS.cell 1 5 rfl rfl; have z1_6 := hS.cell 1 6 rfl rfl; have z1_7 := hS.cell 1 7 rfl rfl; have z1_8 := hS.cell 1 8 rfl rfl; have z1_9 := hS.cell 1 9 rfl rfl; have z1_10 := hS.cell 1 10 rfl rfl; have z1_11 := hS.cell 1 11 rfl rfl
  have HS := Lib.hid hS
  clear hS
  go_wp2_with fail
  refine (order_any a.l a.f _).mono ?_
  rintro e w5 ⟨rfl, hb⟩
  have hS := HS.out.call hb
  clear HS hb z0_0 z0_1 z0_2 z0_3 z0_4 z0_5 z0_6 z0_7 z0_8 z0_9 z0_10 z1_0 z1_1 z1_2 z1_3 z1_4 z1_5 z1_6 z1_7 z1_8 z1_9 z1_10 z1_11
  by_cases c6 : ordI a.l a.f < 0
  · have d6 : decide (ordI a.l a.f < 0) = true := by simp [c6]
    have z0_0 := hS.cell 0 0 rfl rfl; have z0_1 := hS.cell 0 1 rfl rfl; have z0_2 := hS.cell 0 2 rfl rfl; have z0_3 := hS.cell 0 3 rfl rfl; have z0_4 := hS.cell 0 4 rfl rfl; have z0_5 := hS.cell 0 5 rfl rfl; have z0_6 := hS.cell 0 6 rfl rfl; have z0_7 := hS.cell 0 7 rfl rfl; have z0_8 := hS.cell 0 8 rfl rfl; have z0_9 := hS.cell 0 9 rfl rfl; have z0_10 := hS.cell 0 10 rfl rfl; have z1_0 := hS.cell 1 0 rfl rfl; have z1_1 := hS.cell 1 1 rfl rfl; have z1_2 := hS.cell 1 2 rfl rfl; have z1_3 := hS.cell 1 3 rfl rfl; have z1_4 := hS.cell 1 4 rfl rfl; have z1_5 := hS.cell 1 5 rfl rfl; have z1_6 := hS.cell 1 6 rfl rfl; have z1_7 := hS.cell 1 7 rfl rfl; have z1_8 := hS.cell 1 8 rfl rfl; have z1_9 := hS.cell 1 9 rfl rfl; have z1_10 := hS.cell 1 10 rfl rfl; have z1_11 := hS.cell 1 11 rfl rfl
    have HS := Lib.hid hS
    clear hS
    have HF := Lib.hid (show bv = false by rw [HV.out, if_neg (fun h => h c4), if_neg (fun h => h c5), if_pos c6])
    go_wp2_with fail
    go_ret
    exact ⟨by first | (rw [HF.out]; done) | (rw [HF.out]; rfl), HS.out.bel⟩
  have d6 : decide (ordI a.l a.f < 0) = false := by simp; omega
  have HS := Lib.hid hS
  clear hS
  go_upto_region 6 with (fail)
  clear d6
  go_cut [4, 5] from 62 to 72 (fun s4 s5 wx => s5 = .bool true ∧ ∃ g, s4 = .pointer (some ⟨g, 0, none⟩) ∧ Own w [(g, 24, #[.int .i64 (hiOf (a.lo * a.n)), .int .u64 (loOf (a.lo * a.n))]), (x, 28, #[.int .i64 a.n, .int .i64 (hiOf a.s), .int .u64 (loOf a.s), .int .i64 a.lo, .int .i64 a.hi, .int .i64 a.f.t, .int .i64 a.f.v, .int .i64 a.f.s, .int .i64 a.l.t, .int .i64 a.l.v, .int .i64 a.l.s]), (x + 1, 60, #[.int .i64 a.n, .int .i64 (hiOf a.s), .int .u64 (loOf a.s), .int .i64 a.lo, .int .i64 a.hi, .int .i64 a.f.t, .int .i64 a.f.v, .int .i64 a.f.s, .int .i64 a.l.t, .int .i64 a.l.v, .int .i64 a.l.s, .bool true])] wx)
  case first =>
    have hS1 := HS.out.drew
    have hS : (Own w [(x, 28, #[.int .i64 a.n, .int .i64 (hiOf a.s), .int .u64 (loOf a.s), .int .i64 a.lo, .int .i64 a.hi, .int .i64 a.f.t, .int .i64 a.f.v, .int .i64 a.f.s, .int .i64 a.l.t, .int .i64 a.l.v, .int .i64 a.l.s]), (x + 1, 60, #[.int .i64 a.n, .int .i64 (hiOf a.s), .int .u64 (loOf a.s), .int .i64 a.lo, .int .i64 a.hi, .int .i64 a.f.t, .int .i64 a.f.v, .int .i64 a.f.s, .int .i64 a.l.t, .int .i64 a.l.v, .int .i64 a.l.s, .bool true])]) (w5.drew) := hS1
    refine reg_start (Own w [(x, 28, #[.int .i64 a.n, .int .i64 (hiOf a.s), .int .u64 (loOf a.s), .int .i64 a.lo, .int .i64 a.hi, .int .i64 a.f.t, .int .i64 a.f.v, .int .i64 a.f.s, .int .i64 a.l.t, .int .i64 a.l.v, .int .i64 a.l.s]), (x + 1, 60, #[.int .i64 a.n, .int .i64 (hiOf a.s), .int .u64 (loOf a.s), .int .i64 a.lo, .int .i64 a.hi, .int .i64 a.f.t, .int .i64 a.f.v, .int .i64 a.f.s, .int .i64 a.l.t, .int .i64 a.l.v, .int .i64 a.l.s, .bool true])]) (by kernel_rfl) hS ?_
    refine reg_take (i := 0) (v := ?_) rfl (by kernel_rfl) (by kernel_rfl) (by kernel_rfl) (fun _ _ _ h => h) (Or.inl ⟨by kernel_rfl, ?_⟩) hS ?_
    rotate_left
    · (intro w' hSw; have z0_0 := hSw.cell 0 0 rfl rfl; have z0_1 := hSw.cell 0 1 rfl rfl; have z0_2 := hSw.cell 0 2 rfl rfl; have z0_3 := hSw.cell 0 3 rfl rfl; have z0_4 := hSw.cell 0 4 rfl rfl; have z0_5 := hSw.cell 0 5 rfl rfl; have z0_6 := hSw.cell 0 6 rfl rfl; have z0_7 := hSw.cell 0 7 rfl rfl; have z0_8 := hSw.cell 0 8 rfl rfl; have z0_9 := hSw.cell 0 9 rfl rfl; have z0_10 := hSw.cell 0 10 rfl rfl; have z1_0 := hSw.cell 1 0 rfl rfl; have z1_1 := hSw.cell 1 1 rfl rfl; have z1_2 := hSw.cell 1 2 rfl rfl; have z1_3 := hSw.cell 1 3 rfl rfl; have z1_4 := hSw.cell 1 4 rfl rfl; have z1_5 := hSw.cell 1 5 rfl rfl; have z1_6 := hSw.cell 1 6 rfl rfl; have z1_7 := hSw.cell 1 7 rfl rfl; have z1_8 := hSw.cell 1 8 rfl rfl; have z1_9 := hSw.cell 1 9 rfl rfl; have z1_10 := hSw.cell 1 10 rfl rfl; have z1_11 := hSw.cell 1 11 rfl rfl; go_simp <;> with_reducible rfl)
    try simp only [List.getElem_toArray, List.getElem_cons_succ, List.getElem_cons_zero, Act.put, List.setIfInBounds_toArray, List.set_cons_zero, List.set_cons_succ]
    refine reg_take (i := 1) (v := ?_) rfl (by kernel_rfl) (by kernel_rfl) (by kernel_rfl) (fun _ _ _ h => h) (Or.inl ⟨by kernel_rfl, ?_⟩) hS ?_
    rotate_left
    · (intro w' hSw; have z0_0 := hSw.cell 0 0 rfl rfl; have z0_1 := hSw.cell 0 1 rfl rfl; have z0_2 := hSw.cell 0 2 rfl rfl; have z0_3 := hSw.cell 0 3 rfl rfl; have z0_4 := hSw.cell 0 4 rfl rfl; have z0_5 := hSw.cell 0 5 rfl rfl; have z0_6 := hSw.cell 0 6 rfl rfl; have z0_7 := hSw.cell 0 7 rfl rfl; have z0_8 := hSw.cell 0 8 rfl rfl; have z0_9 := hSw.cell 0 9 rfl rfl; have z0_10 := hSw.cell 0 10 rfl rfl; have z1_0 := hSw.cell 1 0 rfl rfl; have z1_1 := hSw.cell 1 1 rfl rfl; have z1_2 := hSw.cell 1 2 rfl rfl; have z1_3 := hSw.cell 1 3 rfl rfl; have z1_4 := hSw.cell 1 4 rfl rfl; have z1_5 := hSw.cell 1 5 rfl rfl; have z1_6 := hSw.cell 1 6 rfl rfl; have z1_7 := hSw.cell 1 7 rfl rfl; have z1_8 := hSw.cell 1 8 rfl rfl; have z1_9 := hSw.cell 1 9 rfl rfl; have z1_10 := hSw.cell 1 10 rfl rfl; have z1_11 := hSw.cell 1 11 rfl rfl; go_simp <;> with_reducible rfl)
    try simp only [List.getElem_toArray, List.getElem_cons_succ, List.getElem_cons_zero, Act.put, List.setIfInBounds_toArray, List.set_cons_zero, List.set_cons_succ]
    refine reg_take (i := 2) (v := ?_) rfl (by kernel_rfl) (by kernel_rfl) (by kernel_rfl) (fun _ _ _ h => h) (Or.inl ⟨by kernel_rfl, ?_⟩) hS ?_
    rotate_left
    · (intro w' hSw; have z0_0 := hSw.cell 0 0 rfl rfl; have z0_1 := hSw.cell 0 1 rfl rfl; have z0_2 := hSw.cell 0 2 rfl rfl; have z0_3 := hSw.cell 0 3 rfl rfl; have z0_4 := hSw.cell 0 4 rfl rfl; have z0_5 := hSw.cell 0 5 rfl rfl; have z0_6 := hSw.cell 0 6 rfl rfl; have z0_7 := hSw.cell 0 7 rfl rfl; have z0_8 := hSw.cell 0 8 rfl rfl; have z0_9 := hSw.cell 0 9 rfl rfl; have z0_10 := hSw.cell 0 10 rfl rfl; have z1_0 := hSw.cell 1 0 rfl rfl; have z1_1 := hSw.cell 1 1 rfl rfl; have z1_2 := hSw.cell 1 2 rfl rfl; have z1_3 := hSw.cell 1 3 rfl rfl; have z1_4 := hSw.cell 1 4 rfl rfl; have z1_5 := hSw.cell 1 5 rfl rfl; have z1_6 := hSw.cell 1 6 rfl rfl; have z1_7 := hSw.cell 1 7 rfl rfl; have z1_8 := hSw.cell 1 8 rfl rfl; have z1_9 := hSw.cell 1 9 rfl rfl; have z1_10 := hSw.cell 1 10 rfl rfl; have z1_11 := hSw.cell 1 11 rfl rfl; go_simp <;> with_reducible rfl)
    try simp only [List.getElem_toArray, List.getElem_cons_succ, List.getElem_cons_zero, Act.put, List.setIfInBounds_toArray, List.set_cons_zero, List.set_cons_succ]
    refine reg_take (i := 4) (v := ?_) rfl (by kernel_rfl) (by kernel_rfl) (by kernel_rfl) (fun _ _ _ h => h) (Or.inl ⟨by kernel_rfl, ?_⟩) hS ?_
    rotate_left
    · (intro w' hSw; have z0_0 := hSw.cell 0 0 rfl rfl; have z0_1 := hSw.cell 0 1 rfl rfl; have z0_2 := hSw.cell 0 2 rfl rfl; have z0_3 := hSw.cell 0 3 rfl rfl; have z0_4 := hSw.cell 0 4 rfl rfl; have z0_5 := hSw.cell 0 5 rfl rfl; have z0_6 := hSw.cell 0 6 rfl rfl; have z0_7 := hSw.cell 0 7 rfl rfl; have z0_8 := hSw.cell 0 8 rfl rfl; have z0_9 := hSw.cell 0 9 rfl rfl; have z0_10 := hSw.cell 0 10 rfl rfl; have z1_0 := hSw.cell 1 0 rfl rfl; have z1_1 := hSw.cell 1 1 rfl rfl; have z1_2 := hSw.cell 1 2 rfl rfl; have z1_3 := hSw.cell 1 3 rfl rfl; have z1_4 := hSw.cell 1 4 rfl rfl; have z1_5 := hSw.cell 1 5 rfl rfl; have z1_6 := hSw.cell 1 6 rfl rfl; have z1_7 := hSw.cell 1 7 rfl rfl; have z1_8 := hSw.cell 1 8 rfl rfl; have z1_9 := hSw.cell 1 9 rfl rfl; have z1_10 := hSw.cell 1 10 rfl rfl; have z1_11 := hSw.cell 1 11 rfl rfl; go_simp <;> with_reducible rfl)
    try simp only [List.getElem_toArray, List.getElem_cons_succ, List.getElem_cons_zero, Act.put, List.setIfInBounds_toArray, List.set_cons_zero, List.set_cons_succ]
    refine reg_take (i := 5) (v := ?_) rfl (by kernel_rfl) (by kernel_rfl) (by kernel_rfl) (fun _ _ _ h => h) (Or.inl ⟨by kernel_rfl, ?_⟩) hS ?_
    rotate_left
    · (intro w' hSw; have z0_0 := hSw.cell 0 0 rfl rfl; have z0_1 := hSw.cell 0 1 rfl rfl; have z0_2 := hSw.cell 0 2 rfl rfl; have z0_3 := hSw.cell 0 3 rfl rfl; have z0_4 := hSw.cell 0 4 rfl rfl; have z0_5 := hSw.cell 0 5 rfl rfl; have z0_6 := hSw.cell 0 6 rfl rfl; have z0_7 := hSw.cell 0 7 rfl rfl; have z0_8 := hSw.cell 0 8 rfl rfl; have z0_9 := hSw.cell 0 9 rfl rfl; have z0_10 := hSw.cell 0 10 rfl rfl; have z1_0 := hSw.cell 1 0 rfl rfl; have z1_1 := hSw.cell 1 1 rfl rfl; have z1_2 := hSw.cell 1 2 rfl rfl; have z1_3 := hSw.cell 1 3 rfl rfl; have z1_4 := hSw.cell 1 4 rfl rfl; have z1_5 := hSw.cell 1 5 rfl rfl; have z1_6 := hSw.cell 1 6 rfl rfl; have z1_7 := hSw.cell 1 7 rfl rfl; have z1_8 := hSw.cell 1 8 rfl rfl; have z1_9 := hSw.cell 1 9 rfl rfl; have z1_10 := hSw.cell 1 10 rfl rfl; have z1_11 := hSw.cell 1 11 rfl rfl; go_simp <;> with_reducible rfl)
    try simp only [List.getElem_toArray, List.getElem_cons_succ, List.getElem_cons_zero, Act.put, List.setIfInBounds_toArray, List.set_cons_zero, List.set_cons_succ]
    refine reg_take (i := 6) (v := ?_) rfl (by kernel_rfl) (by kernel_rfl) (by kernel_rfl) (fun _ _ _ h => h) (Or.inl ⟨by kernel_rfl, ?_⟩) hS ?_
    rotate_left
    · (intro w' hSw; have z0_0 := hSw.cell 0 0 rfl rfl; have z0_1 := hSw.cell 0 1 rfl rfl; have z0_2 := hSw.cell 0 2 rfl rfl; have z0_3 := hSw.cell 0 3 rfl rfl; have z0_4 := hSw.cell 0 4 rfl rfl; have z0_5 := hSw.cell 0 5 rfl rfl; have z0_6 := hSw.cell 0 6 rfl rfl; have z0_7 := hSw.cell 0 7 rfl rfl; have z0_8 := hSw.cell 0 8 rfl rfl; have z0_9 := hSw.cell 0 9 rfl rfl; have z0_10 := hSw.cell 0 10 rfl rfl; have z1_0 := hSw.cell 1 0 rfl rfl; have z1_1 := hSw.cell 1 1 rfl rfl; have z1_2 := hSw.cell 1 2 rfl rfl; have z1_3 := hSw.cell 1 3 rfl rfl; have z1_4 := hSw.cell 1 4 rfl rfl; have z1_5 := hSw.cell 1 5 rfl rfl; have z1_6 := hSw.cell 1 6 rfl rfl; have z1_7 := hSw.cell 1 7 rfl rfl; have z1_8 := hSw.cell 1 8 rfl rfl; have z1_9 := hSw.cell 1 9 rfl rfl; have z1_10 := hSw.cell 1 10 rfl rfl; have z1_11 := hSw.cell 1 11 rfl rfl; go_simp <;> with_reducible rfl)
    try simp only [List.getElem_toArray, List.getElem_cons_succ, List.getElem_cons_zero, Act.put, List.setIfInBounds_toArray, List.set_cons_zero, List.set_cons_succ]
    refine reg_two (i := 3) (j := 11) rfl rfl (by kernel_rfl) (fun K hK => ?_) (fun K hK => ?_)
    · skip
      have HK := Lib.hid hK
      clear hK
      go_simp
      refine (wideOf_any a.lo HO.out.2.2.1 _).mono ?_
      rintro e v1 ⟨rfl, hb1⟩
      have HB := Lib.hid (hS.call hb1)
      clear hb1
      go_wp2_with fail
      refine HK.out.go (Own w [(x, 28, #[.int .i64 a.n, .int .i64 (hiOf a.s), .int .u64 (loOf a.s), .int .i64 a.lo, .int .i64 a.hi, .int .i64 a.f.t, .int .i64 a.f.v, .int .i64 a.f.s, .int .i64 a.l.t, .int .i64 a.l.v, .int .i64 a.l.s]), (x + 1, 60, #[.int .i64 a.n, .int .i64 (hiOf a.s), .int .u64 (loOf a.s), .int .i64 a.lo, .int .i64 a.hi, .int .i64 a.f.t, .int .i64 a.f.v, .int .i64 a.f.s, .int .i64 a.l.t, .int .i64 a.l.v, .int .i64 a.l.s, .bool true])]) (fun _ h => h) (HB.out) ?_
      clear HK hS
      intro w2 hS
      try simp only [List.getElem_toArray, List.getElem_cons_succ, List.getElem_cons_zero, Act.put, List.setIfInBounds_toArray, List.set_cons_zero, List.set_cons_succ]
      refine reg_two (i := 7) (j := 11) rfl rfl (by kernel_rfl) (fun K hK => ?_) (fun K hK => ?_)
      · skip
        have HK := Lib.hid hK
        clear hK
        go_simp
        refine (times_ok a.lo a.n HO.out.2.2.1 (by omega) (by omega) _).mono ?_
        rintro e v2 ⟨rfl, hb2⟩
        have HB := Lib.hid (hS.call hb2)
        clear hb2
        go_wp2_with fail
        refine HK.out.go (Own w [(x, 28, #[.int .i64 a.n, .int .i64 (hiOf a.s), .int .u64 (loOf a.s), .int .i64 a.lo, .int .i64 a.hi, .int .i64 a.f.t, .int .i64 a.f.v, .int .i64 a.f.s, .int .i64 a.l.t, .int .i64 a.l.v, .int .i64 a.l.s]), (x + 1, 60, #[.int .i64 a.n, .int .i64 (hiOf a.s), .int .u64 (loOf a.s), .int .i64 a.lo, .int .i64 a.hi, .int .i64 a.f.t, .int .i64 a.f.v, .int .i64 a.f.s, .int .i64 a.l.t, .int .i64 a.l.v, .int .i64 a.l.s, .bool true])]) (fun _ h => h) (HB.out) ?_
        clear HK hS
        intro w3 hS
        try simp only [List.getElem_toArray, List.getElem_cons_succ, List.getElem_cons_zero, Act.put, List.setIfInBounds_toArray, List.set_cons_zero, List.set_cons_succ]
        refine reg_take (i := 8) (v := ?_) rfl (by kernel_rfl) (by kernel_rfl) (by kernel_rfl) (fun _ _ _ h => h) (Or.inl ⟨by kernel_rfl, ?_⟩) hS ?_
        rotate_left
        · (intro w' hSw; go_simp <;> with_reducible rfl)
        try simp only [List.getElem_toArray, List.getElem_cons_succ, List.getElem_cons_zero, Act.put, List.setIfInBounds_toArray, List.set_cons_zero, List.set_cons_succ]
        refine reg_take (i := 9) (v := ?_) rfl (by kernel_rfl) (by kernel_rfl) (by kernel_rfl) (fun _ _ _ h => h) (Or.inl ⟨by kernel_rfl, ?_⟩) hS ?_
        rotate_left
        · (intro w' hSw; go_simp <;> with_reducible rfl)
        try simp only [List.getElem_toArray, List.getElem_cons_succ, List.getElem_cons_zero, Act.put, List.setIfInBounds_toArray, List.set_cons_zero, List.set_cons_succ]
        refine reg_take (i := 10) (v := ?_) rfl (by kernel_rfl) (by kernel_rfl) (by kernel_rfl) (fun _ _ _ h => h) (Or.inl ⟨by kernel_rfl, ?_⟩) hS ?_
        rotate_left
        · (intro w' hSw; go_simp <;> with_reducible rfl)
        try simp only [List.getElem_toArray, List.getElem_cons_succ, List.getElem_cons_zero, Act.put, List.setIfInBounds_toArray, List.set_cons_zero, List.set_cons_succ]
        obtain ⟨g, hg⟩ : ∃ g, g = w3.heap.size := ⟨_, rfl⟩
        have HA := Lib.hid (And.intro hg ((hS.alloc (show g = w3.heap.size from hg) 24 #[.int .i64 0, .int .u64 0]).front 2 rfl))
        clear hg
        refine reg_call (i := 11) rfl (by kernel_rfl) (fun K hK => ?_)
        have HK := Lib.hid hK
        clear hK
        go_simp
        rw [← HA.out.1]
        go_wp2_with fail
        refine HK.out.go (OwnR w g 24 2 [(x, 28, #[.int .i64 a.n, .int .i64 (hiOf a.s), .int .u64 (loOf a.s), .int .i64 a.lo, .int .i64 a.hi, .int .i64 a.f.t, .int .i64 a.f.v, .int .i64 a.f.s, .int .i64 a.l.t, .int .i64 a.l.v, .int .i64 a.l.s]), (x + 1, 60, #[.int .i64 a.n, .int .i64 (hiOf a.s), .int .u64 (loOf a.s), .int .i64 a.lo, .int .i64 a.hi, .int .i64 a.f.t, .int .i64 a.f.v, .int .i64 a.f.s, .int .i64 a.l.t, .int .i64 a.l.v, .int .i64 a.l.s, .bool true])]) (fun _ h => h.rest) (OwnR.of HA.out.2 rfl) ?_
        clear HK hS
        intro v4 hS
        try simp only [List.getElem_toArray, List.getElem_cons_succ, List.getElem_cons_zero, Act.put, List.setIfInBounds_toArray, List.set_cons_zero, List.set_cons_succ]
        obtain ⟨c0, c1, hO⟩ := hS.two
        have z0_0 := hO.cell 0 0 rfl rfl; have z0_1 := hO.cell 0 1 rfl rfl
        have zf0 := hO.free 0 rfl
        have HW := Lib.hid (hS.put [.int .i64 (hiOf (a.lo * a.n)), .int .u64 (loOf (a.lo * a.n))] rfl)
        clear hO
        refine reg_call (i := 12) rfl (by kernel_rfl) (fun K hK => ?_)
        have HK := Lib.hid hK
        clear hK
        go_simp
        go_wp2_with fail
        refine HK.out.go (Own w [(g, 24, #[.int .i64 (hiOf (a.lo * a.n)), .int .u64 (loOf (a.lo * a.n))]), (x, 28, #[.int .i64 a.n, .int .i64 (hiOf a.s), .int .u64 (loOf a.s), .int .i64 a.lo, .int .i64 a.hi, .int .i64 a.f.t, .int .i64 a.f.v, .int .i64 a.f.s, .int .i64 a.l.t, .int .i64 a.l.v, .int .i64 a.l.s]), (x + 1, 60, #[.int .i64 a.n, .int .i64 (hiOf a.s), .int .u64 (loOf a.s), .int .i64 a.lo, .int .i64 a.hi, .int .i64 a.f.t, .int .i64 a.f.v, .int .i64 a.f.s, .int .i64 a.l.t, .int .i64 a.l.v, .int .i64 a.l.s, .bool true])]) (fun _ h => OwnR.of h rfl) (HW.out) ?_
        clear HK hS
        intro v9 hS
        try simp only [List.getElem_toArray, List.getElem_cons_succ, List.getElem_cons_zero, Act.put, List.setIfInBounds_toArray, List.set_cons_zero, List.set_cons_succ]
        refine reg_take (i := 13) (v := ?_) rfl (by kernel_rfl) (by kernel_rfl) (by kernel_rfl) (fun _ _ _ h => h) (Or.inl ⟨by kernel_rfl, ?_⟩) hS ?_
        rotate_left
        · (intro w' hSw; go_simp <;> with_reducible rfl)
        try simp only [List.getElem_toArray, List.getElem_cons_succ, List.getElem_cons_zero, Act.put, List.setIfInBounds_toArray, List.set_cons_zero, List.set_cons_succ]
        refine wpAnyH_done (by kernel_rfl) ?_ _
        try simp only [List.getElem_toArray, List.getElem_cons_succ, List.getElem_cons_zero]
        try simp only [List.getElem_toArray, List.getElem_cons_succ, List.getElem_cons_zero, Act.put, List.setIfInBounds_toArray, List.set_cons_zero, List.set_cons_succ]
        have HU := Lib.hid hS
        clear hS
        go_wp2_with fail
        go_meet
        exact ⟨rfl, g, rfl, HU.out⟩
      · skip
        obtain ⟨g, hg⟩ : ∃ g, g = w2.heap.size := ⟨_, rfl⟩
        have HA := Lib.hid (And.intro hg ((hS.alloc (show g = w2.heap.size from hg) 24 #[.int .i64 0, .int .u64 0]).front 2 rfl))
        clear hg
        have HK := Lib.hid hK
        clear hK
        go_simp
        rw [← HA.out.1]
        go_wp2_with fail
        refine HK.out.go (OwnR w g 24 2 [(x, 28, #[.int .i64 a.n, .int .i64 (hiOf a.s), .int .u64 (loOf a.s), .int .i64 a.lo, .int .i64 a.hi, .int .i64 a.f.t, .int .i64 a.f.v, .int .i64 a.f.s, .int .i64 a.l.t, .int .i64 a.l.v, .int .i64 a.l.s]), (x + 1, 60, #[.int .i64 a.n, .int .i64 (hiOf a.s), .int .u64 (loOf a.s), .int .i64 a.lo, .int .i64 a.hi, .int .i64 a.f.t, .int .i64 a.f.v, .int .i64 a.f.s, .int .i64 a.l.t, .int .i64 a.l.v, .int .i64 a.l.s, .bool true])]) (fun _ h => h.rest) (OwnR.of HA.out.2 rfl) ?_
        clear HK hS
        intro v4 hS
        try simp only [List.getElem_toArray, List.getElem_cons_succ, List.getElem_cons_zero, Act.put, List.setIfInBounds_toArray, List.set_cons_zero, List.set_cons_succ]
        refine reg_call (i := 7) rfl (by kernel_rfl) (fun K hK => ?_)
        have HK := Lib.hid hK
        clear hK
        go_simp
        refine (times_ok a.lo a.n HO.out.2.2.1 (by omega) (by omega) _).mono ?_
        rintro e v2 ⟨rfl, hb2⟩
        have HB := Lib.hid (hS.call hb2)
        clear hb2
        go_wp2_with fail
        refine HK.out.go (OwnR w g 24 2 [(x, 28, #[.int .i64 a.n, .int .i64 (hiOf a.s), .int .u64 (loOf a.s), .int .i64 a.lo, .int .i64 a.hi, .int .i64 a.f.t, .int .i64 a.f.v, .int .i64 a.f.s, .int .i64 a.l.t, .int .i64 a.l.v, .int .i64 a.l.s]), (x + 1, 60, #[.int .i64 a.n, .int .i64 (hiOf a.s), .int .u64 (loOf a.s), .int .i64 a.lo, .int .i64 a.hi, .int .i64 a.f.t, .int .i64 a.f.v, .int .i64 a.f.s, .int .i64 a.l.t, .int .i64 a.l.v, .int .i64 a.l.s, .bool true])]) (fun _ h => h) (HB.out) ?_
        clear HK hS
        intro w3 hS
        try simp only [List.getElem_toArray, List.getElem_cons_succ, List.getElem_cons_zero, Act.put, List.setIfInBounds_toArray, List.set_cons_zero, List.set_cons_succ]
        refine reg_take (i := 8) (v := ?_) rfl (by kernel_rfl) (by kernel_rfl) (by kernel_rfl) (fun _ _ _ h => h) (Or.inl ⟨by kernel_rfl, ?_⟩) hS ?_
        rotate_left
        · (intro w' hSw; go_simp <;> with_reducible rfl)
        try simp only [List.getElem_toArray, List.getElem_cons_succ, List.getElem_cons_zero, Act.put, List.setIfInBounds_toArray, List.set_cons_zero, List.set_cons_succ]
        refine reg_take (i := 9) (v := ?_) rfl (by kernel_rfl) (by kernel_rfl) (by kernel_rfl) (fun _ _ _ h => h) (Or.inl ⟨by kernel_rfl, ?_⟩) hS ?_
        rotate_left
        · (intro w' hSw; go_simp <;> with_reducible rfl)
        try simp only [List.getElem_toArray, List.getElem_cons_succ, List.getElem_cons_zero, Act.put, List.setIfInBounds_toArray, List.set_cons_zero, List.set_cons_succ]
        refine reg_take (i := 10) (v := ?_) rfl (by kernel_rfl) (by kernel_rfl) (by kernel_rfl) (fun _ _ _ h => h) (Or.inl ⟨by kernel_rfl, ?_⟩) hS ?_
        rotate_left
        · (intro w' hSw; go_simp <;> with_reducible rfl)
        try simp only [List.getElem_toArray, List.getElem_cons_succ, List.getElem_cons_zero, Act.put, List.setIfInBounds_toArray, List.set_cons_zero, List.set_cons_succ]
        obtain ⟨c0, c1, hO⟩ := hS.two
        have z0_0 := hO.cell 0 0 rfl rfl; have z0_1 := hO.cell 0 1 rfl rfl
        have zf0 := hO.free 0 rfl
        have HW := Lib.hid (hS.put [.int .i64 (hiOf (a.lo * a.n)), .int .u64 (loOf (a.lo * a.n))] rfl)
        clear hO
        refine reg_call (i := 12) rfl (by kernel_rfl) (fun K hK => ?_)
        have HK := Lib.hid hK
        clear hK
        go_simp
        go_wp2_with fail
        refine HK.out.go (Own w [(g, 24, #[.int .i64 (hiOf (a.lo * a.n)), .int .u64 (loOf (a.lo * a.n))]), (x, 28, #[.int .i64 a.n, .int .i64 (hiOf a.s), .int .u64 (loOf a.s), .int .i64 a.lo, .int .i64 a.hi, .int .i64 a.f.t, .int .i64 a.f.v, .int .i64 a.f.s, .int .i64 a.l.t, .int .i64 a.l.v, .int .i64 a.l.s]), (x + 1, 60, #[.int .i64 a.n, .int .i64 (hiOf a.s), .int .u64 (loOf a.s), .int .i64 a.lo, .int .i64 a.hi, .int .i64 a.f.t, .int .i64 a.f.v, .int .i64 a.f.s, .int .i64 a.l.t, .int .i64 a.l.v, .int .i64 a.l.s, .bool true])]) (fun _ h => OwnR.of h rfl) (HW.out) ?_
        clear HK hS
        intro v9 hS
        try simp only [List.getElem_toArray, List.getElem_cons_succ, List.getElem_cons_zero, Act.put, List.setIfInBounds_toArray, List.set_cons_zero, List.set_cons_succ]
        refine reg_take (i := 13) (v := ?_) rfl (by kernel_rfl) (by kernel_rfl) (by kernel_rfl) (fun _ _ _ h => h) (Or.inl ⟨by kernel_rfl, ?_⟩) hS ?_
        rotate_left
        · (intro w' hSw; go_simp <;> with_reducible rfl)
        try simp only [List.getElem_toArray, List.getElem_cons_succ, List.getElem_cons_zero, Act.put, List.setIfInBounds_toArray, List.set_cons_zero, List.set_cons_succ]
        refine wpAnyH_done (by kernel_rfl) ?_ _
        try simp only [List.getElem_toArray, List.getElem_cons_succ, List.getElem_cons_zero]
        try simp only [List.getElem_toArray, List.getElem_cons_succ, List.getElem_cons_zero, Act.put, List.setIfInBounds_toArray, List.set_cons_zero, List.set_cons_succ]
        have HU := Lib.hid hS
        clear hS
        go_wp2_with fail
        go_meet
        exact ⟨rfl, g, rfl, HU.out⟩
    · skip
      obtain ⟨g, hg⟩ : ∃ g, g = w5.heap.size := ⟨_, rfl⟩
      have HA := Lib.hid (And.intro hg ((hS.alloc (show g = w5.drew.heap.size from hg) 24 #[.int .i64 0, .int .u64 0]).front 2 rfl))
      clear hg
      have HK := Lib.hid hK
      clear hK
      go_simp
      rw [← HA.out.1]
      go_wp2_with fail
      refine HK.out.go (OwnR w g 24 2 [(x, 28, #[.int .i64 a.n, .int .i64 (hiOf a.s), .int .u64 (loOf a.s), .int .i64 a.lo, .int .i64 a.hi, .int .i64 a.f.t, .int .i64 a.f.v, .int .i64 a.f.s, .int .i64 a.l.t, .int .i64 a.l.v, .int .i64 a.l.s]), (x + 1, 60, #[.int .i64 a.n, .int .i64 (hiOf a.s), .int .u64 (loOf a.s), .int .i64 a.lo, .int .i64 a.hi, .int .i64 a.f.t, .int .i64 a.f.v, .int .i64 a.f.s, .int .i64 a.l.t, .int .i64 a.l.v, .int .i64 a.l.s, .bool true])]) (fun _ h => h.rest) (OwnR.of HA.out.2 rfl) ?_
      clear HK hS
      intro v4 hS
      try simp only [List.getElem_toArray, List.getElem_cons_succ, List.getElem_cons_zero, Act.put, List.setIfInBounds_toArray, List.set_cons_zero, List.set_cons_succ]
      refine reg_call (i := 3) rfl (by kernel_rfl) (fun K hK => ?_)
      have HK := Lib.hid hK
      clear hK
      go_simp
      refine (wideOf_any a.lo HO.out.2.2.1 _).mono ?_
      rintro e v1 ⟨rfl, hb1⟩
      have HB := Lib.hid (hS.call hb1)
      clear hb1
      go_wp2_with fail
      refine HK.out.go (OwnR w g 24 2 [(x, 28, #[.int .i64 a.n, .int .i64 (hiOf a.s), .int .u64 (loOf a.s), .int .i64 a.lo, .int .i64 a.hi, .int .i64 a.f.t, .int .i64 a.f.v, .int .i64 a.f.s, .int .i64 a.l.t, .int .i64 a.l.v, .int .i64 a.l.s]), (x + 1, 60, #[.int .i64 a.n, .int .i64 (hiOf a.s), .int .u64 (loOf a.s), .int .i64 a.lo, .int .i64 a.hi, .int .i64 a.f.t, .int .i64 a.f.v, .int .i64 a.f.s, .int .i64 a.l.t, .int .i64 a.l.v, .int .i64 a.l.s, .bool true])]) (fun _ h => h) (HB.out) ?_
      clear HK hS
      intro w2 hS
      try simp only [List.getElem_toArray, List.getElem_cons_succ, List.getElem_cons_zero, Act.put, List.setIfInBounds_toArray, List.set_cons_zero, List.set_cons_succ]
      refine reg_call (i := 7) rfl (by kernel_rfl) (fun K hK => ?_)
      have HK := Lib.hid hK
      clear hK
      go_simp
      refine (times_ok a.lo a.n HO.out.2.2.1 (by omega) (by omega) _).mono ?_
      rintro e v2 ⟨rfl, hb2⟩
      have HB := Lib.hid (hS.call hb2)
      clear hb2
      go_wp2_with fail
      refine HK.out.go (OwnR w g 24 2 [(x, 28, #[.int .i64 a.n, .int .i64 (hiOf a.s), .int .u64 (loOf a.s), .int .i64 a.lo, .int .i64 a.hi, .int .i64 a.f.t, .int .i64 a.f.v, .int .i64 a.f.s, .int .i64 a.l.t, .int .i64 a.l.v, .int .i64 a.l.s]), (x + 1, 60, #[.int .i64 a.n, .int .i64 (hiOf a.s), .int .u64 (loOf a.s), .int .i64 a.lo, .int .i64 a.hi, .int .i64 a.f.t, .int .i64 a.f.v, .int .i64 a.f.s, .int .i64 a.l.t, .int .i64 a.l.v, .int .i64 a.l.s, .bool true])]) (fun _ h => h) (HB.out) ?_
      clear HK hS
      intro w3 hS
      try simp only [List.getElem_toArray, List.getElem_cons_succ, List.getElem_cons_zero, Act.put, List.setIfInBounds_toArray, List.set_cons_zero, List.set_cons_succ]
      refine reg_take (i := 8) (v := ?_) rfl (by kernel_rfl) (by kernel_rfl) (by kernel_rfl) (fun _ _ _ h => h) (Or.inl ⟨by kernel_rfl, ?_⟩) hS ?_
      rotate_left
      · (intro w' hSw; go_simp <;> with_reducible rfl)
      try simp only [List.getElem_toArray, List.getElem_cons_succ, List.getElem_cons_zero, Act.put, List.setIfInBounds_toArray, List.set_cons_zero, List.set_cons_succ]
      refine reg_take (i := 9) (v := ?_) rfl (by kernel_rfl) (by kernel_rfl) (by kernel_rfl) (fun _ _ _ h => h) (Or.inl ⟨by kernel_rfl, ?_⟩) hS ?_
      rotate_left
      · (intro w' hSw; go_simp <;> with_reducible rfl)
      try simp only [List.getElem_toArray, List.getElem_cons_succ, List.getElem_cons_zero, Act.put, List.setIfInBounds_toArray, List.set_cons_zero, List.set_cons_succ]
      refine reg_take (i := 10) (v := ?_) rfl (by kernel_rfl) (by kernel_rfl) (by kernel_rfl) (fun _ _ _ h => h) (Or.inl ⟨by kernel_rfl, ?_⟩) hS ?_
      rotate_left
      · (intro w' hSw; go_simp <;> with_reducible rfl)
      try simp only [List.getElem_toArray, List.getElem_cons_succ, List.getElem_cons_zero, Act.put, List.setIfInBounds_toArray, List.set_cons_zero, List.set_cons_succ]
      obtain ⟨c0, c1, hO⟩ := hS.two
      have z0_0 := hO.cell 0 0 rfl rfl; have z0_1 := hO.cell 0 1 rfl rfl
      have zf0 := hO.free 0 rfl
      have HW := Lib.hid (hS.put [.int .i64 (hiOf (a.lo * a.n)), .int .u64 (loOf (a.lo * a.n))] rfl)
      clear hO
      refine reg_call (i := 12) rfl (by kernel_rfl) (fun K hK => ?_)
      have HK := Lib.hid hK
      clear hK
      go_simp
      go_wp2_with fail
      refine HK.out.go (Own w [(g, 24, #[.int .i64 (hiOf (a.lo * a.n)), .int .u64 (loOf (a.lo * a.n))]), (x, 28, #[.int .i64 a.n, .int .i64 (hiOf a.s), .int .u64 (loOf a.s), .int .i64 a.lo, .int .i64 a.hi, .int .i64 a.f.t, .int .i64 a.f.v, .int .i64 a.f.s, .int .i64 a.l.t, .int .i64 a.l.v, .int .i64 a.l.s]), (x + 1, 60, #[.int .i64 a.n, .int .i64 (hiOf a.s), .int .u64 (loOf a.s), .int .i64 a.lo, .int .i64 a.hi, .int .i64 a.f.t, .int .i64 a.f.v, .int .i64 a.f.s, .int .i64 a.l.t, .int .i64 a.l.v, .int .i64 a.l.s, .bool true])]) (fun _ h => OwnR.of h rfl) (HW.out) ?_
      clear HK hS
      intro v9 hS
      try simp only [List.getElem_toArray, List.getElem_cons_succ, List.getElem_cons_zero, Act.put, List.setIfInBounds_toArray, List.set_cons_zero, List.set_cons_succ]
      refine reg_take (i := 13) (v := ?_) rfl (by kernel_rfl) (by kernel_rfl) (by kernel_rfl) (fun _ _ _ h => h) (Or.inl ⟨by kernel_rfl, ?_⟩) hS ?_
      rotate_left
      · (intro w' hSw; go_simp <;> with_reducible rfl)
      try simp only [List.getElem_toArray, List.getElem_cons_succ, List.getElem_cons_zero, Act.put, List.setIfInBounds_toArray, List.set_cons_zero, List.set_cons_succ]
      refine wpAnyH_done (by kernel_rfl) ?_ _
      try simp only [List.getElem_toArray, List.getElem_cons_succ, List.getElem_cons_zero]
      try simp only [List.getElem_toArray, List.getElem_cons_succ, List.getElem_cons_zero, Act.put, List.setIfInBounds_toArray, List.set_cons_zero, List.set_cons_succ]
      have HU := Lib.hid hS
      clear hS
      go_wp2_with fail
      go_meet
      exact ⟨rfl, g, rfl, HU.out⟩
  case rest =>
    obtain ⟨rfl, g1, rfl, hS⟩ := hcut
    clear HS
    have HS := Lib.hid hS
    clear hS
    go_upto_region 7 with (fail)
    go_cut [6, 7] from 73 to 83 (fun s6 s7 wx => s7 = .bool true ∧ ∃ g, s6 = .pointer (some ⟨g, 0, none⟩) ∧ Own w [(g, 24, #[.int .i64 (hiOf (a.hi * a.n)), .int .u64 (loOf (a.hi * a.n))]), (g1, 24, #[.int .i64 (hiOf (a.lo * a.n)), .int .u64 (loOf (a.lo * a.n))]), (x, 28, #[.int .i64 a.n, .int .i64 (hiOf a.s), .int .u64 (loOf a.s), .int .i64 a.lo, .int .i64 a.hi, .int .i64 a.f.t, .int .i64 a.f.v, .int .i64 a.f.s, .int .i64 a.l.t, .int .i64 a.l.v, .int .i64 a.l.s]), (x + 1, 60, #[.int .i64 a.n, .int .i64 (hiOf a.s), .int .u64 (loOf a.s), .int .i64 a.lo, .int .i64 a.hi, .int .i64 a.f.t, .int .i64 a.f.v, .int .i64 a.f.s, .int .i64 a.l.t, .int .i64 a.l.v, .int .i64 a.l.s, .bool true])] wx)
    case first =>
      have hS1 := HS.out.drew
      have hS : (Own w [(g1, 24, #[.int .i64 (hiOf (a.lo * a.n)), .int .u64 (loOf (a.lo * a.n))]), (x, 28, #[.int .i64 a.n, .int .i64 (hiOf a.s), .int .u64 (loOf a.s), .int .i64 a.lo, .int .i64 a.hi, .int .i64 a.f.t, .int .i64 a.f.v, .int .i64 a.f.s, .int .i64 a.l.t, .int .i64 a.l.v, .int .i64 a.l.s]), (x + 1, 60, #[.int .i64 a.n, .int .i64 (hiOf a.s), .int .u64 (loOf a.s), .int .i64 a.lo, .int .i64 a.hi, .int .i64 a.f.t, .int .i64 a.f.v, .int .i64 a.f.s, .int .i64 a.l.t, .int .i64 a.l.v, .int .i64 a.l.s, .bool true])]) (wc.drew) := hS1
      refine reg_start (Own w [(g1, 24, #[.int .i64 (hiOf (a.lo * a.n)), .int .u64 (loOf (a.lo * a.n))]), (x, 28, #[.int .i64 a.n, .int .i64 (hiOf a.s), .int .u64 (loOf a.s), .int .i64 a.lo, .int .i64 a.hi, .int .i64 a.f.t, .int .i64 a.f.v, .int .i64 a.f.s, .int .i64 a.l.t, .int .i64 a.l.v, .int .i64 a.l.s]), (x + 1, 60, #[.int .i64 a.n, .int .i64 (hiOf a.s), .int .u64 (loOf a.s), .int .i64 a.lo, .int .i64 a.hi, .int .i64 a.f.t, .int .i64 a.f.v, .int .i64 a.f.s, .int .i64 a.l.t, .int .i64 a.l.v, .int .i64 a.l.s, .bool true])]) (by kernel_rfl) hS ?_
      refine reg_take (i := 0) (v := ?_) rfl (by kernel_rfl) (by kernel_rfl) (by kernel_rfl) (fun _ _ _ h => h) (Or.inl ⟨by kernel_rfl, ?_⟩) hS ?_
      rotate_left
      · (intro w' hSw; have z0_0 := hSw.cell 0 0 rfl rfl; have z0_1 := hSw.cell 0 1 rfl rfl; have z1_0 := hSw.cell 1 0 rfl rfl; have z1_1 := hSw.cell 1 1 rfl rfl; have z1_2 := hSw.cell 1 2 rfl rfl; have z1_3 := hSw.cell 1 3 rfl rfl; have z1_4 := hSw.cell 1 4 rfl rfl; have z1_5 := hSw.cell 1 5 rfl rfl; have z1_6 := hSw.cell 1 6 rfl rfl; have z1_7 := hSw.cell 1 7 rfl rfl; have z1_8 := hSw.cell 1 8 rfl rfl; have z1_9 := hSw.cell 1 9 rfl rfl; have z1_10 := hSw.cell 1 10 rfl rfl; have z2_0 := hSw.cell 2 0 rfl rfl; have z2_1 := hSw.cell 2 1 rfl rfl; have z2_2 := hSw.cell 2 2 rfl rfl; have z2_3 := hSw.cell 2 3 rfl rfl; have z2_4 := hSw.cell 2 4 rfl rfl; have z2_5 := hSw.cell 2 5 rfl rfl; have z2_6 := hSw.cell 2 6 rfl rfl; have z2_7 := hSw.cell 2 7 rfl rfl; have z2_8 := hSw.cell 2 8 rfl rfl; have z2_9 := hSw.cell 2 9 rfl rfl; have z2_10 := hSw.cell 2 10 rfl rfl; have z2_11 := hSw.cell 2 11 rfl rfl; go_simp <;> with_reducible rfl)
      try simp only [List.getElem_toArray, List.getElem_cons_succ, List.getElem_cons_zero, Act.put, List.setIfInBounds_toArray, List.set_cons_zero, List.set_cons_succ]
      refine reg_take (i := 1) (v := ?_) rfl (by kernel_rfl) (by kernel_rfl) (by kernel_rfl) (fun _ _ _ h => h) (Or.inl ⟨by kernel_rfl, ?_⟩) hS ?_
      rotate_left
      · (intro w' hSw; have z0_0 := hSw.cell 0 0 rfl rfl; have z0_1 := hSw.cell 0 1 rfl rfl; have z1_0 := hSw.cell 1 0 rfl rfl; have z1_1 := hSw.cell 1 1 rfl rfl; have z1_2 := hSw.cell 1 2 rfl rfl; have z1_3 := hSw.cell 1 3 rfl rfl; have z1_4 := hSw.cell 1 4 rfl rfl; have z1_5 := hSw.cell 1 5 rfl rfl; have z1_6 := hSw.cell 1 6 rfl rfl; have z1_7 := hSw.cell 1 7 rfl rfl; have z1_8 := hSw.cell 1 8 rfl rfl; have z1_9 := hSw.cell 1 9 rfl rfl; have z1_10 := hSw.cell 1 10 rfl rfl; have z2_0 := hSw.cell 2 0 rfl rfl; have z2_1 := hSw.cell 2 1 rfl rfl; have z2_2 := hSw.cell 2 2 rfl rfl; have z2_3 := hSw.cell 2 3 rfl rfl; have z2_4 := hSw.cell 2 4 rfl rfl; have z2_5 := hSw.cell 2 5 rfl rfl; have z2_6 := hSw.cell 2 6 rfl rfl; have z2_7 := hSw.cell 2 7 rfl rfl; have z2_8 := hSw.cell 2 8 rfl rfl; have z2_9 := hSw.cell 2 9 rfl rfl; have z2_10 := hSw.cell 2 10 rfl rfl; have z2_11 := hSw.cell 2 11 rfl rfl; go_simp <;> with_reducible rfl)
      try simp only [List.getElem_toArray, List.getElem_cons_succ, List.getElem_cons_zero, Act.put, List.setIfInBounds_toArray, List.set_cons_zero, List.set_cons_succ]
      refine reg_take (i := 2) (v := ?_) rfl (by kernel_rfl) (by kernel_rfl) (by kernel_rfl) (fun _ _ _ h => h) (Or.inl ⟨by kernel_rfl, ?_⟩) hS ?_
      rotate_left
      · (intro w' hSw; have z0_0 := hSw.cell 0 0 rfl rfl; have z0_1 := hSw.cell 0 1 rfl rfl; have z1_0 := hSw.cell 1 0 rfl rfl; have z1_1 := hSw.cell 1 1 rfl rfl; have z1_2 := hSw.cell 1 2 rfl rfl; have z1_3 := hSw.cell 1 3 rfl rfl; have z1_4 := hSw.cell 1 4 rfl rfl; have z1_5 := hSw.cell 1 5 rfl rfl; have z1_6 := hSw.cell 1 6 rfl rfl; have z1_7 := hSw.cell 1 7 rfl rfl; have z1_8 := hSw.cell 1 8 rfl rfl; have z1_9 := hSw.cell 1 9 rfl rfl; have z1_10 := hSw.cell 1 10 rfl rfl; have z2_0 := hSw.cell 2 0 rfl rfl; have z2_1 := hSw.cell 2 1 rfl rfl; have z2_2 := hSw.cell 2 2 rfl rfl; have z2_3 := hSw.cell 2 3 rfl rfl; have z2_4 := hSw.cell 2 4 rfl rfl; have z2_5 := hSw.cell 2 5 rfl rfl; have z2_6 := hSw.cell 2 6 rfl rfl; have z2_7 := hSw.cell 2 7 rfl rfl; have z2_8 := hSw.cell 2 8 rfl rfl; have z2_9 := hSw.cell 2 9 rfl rfl; have z2_10 := hSw.cell 2 10 rfl rfl; have z2_11 := hSw.cell 2 11 rfl rfl; go_simp <;> with_reducible rfl)
      try simp only [List.getElem_toArray, List.getElem_cons_succ, List.getElem_cons_zero, Act.put, List.setIfInBounds_toArray, List.set_cons_zero, List.set_cons_succ]
      refine reg_take (i := 4) (v := ?_) rfl (by kernel_rfl) (by kernel_rfl) (by kernel_rfl) (fun _ _ _ h => h) (Or.inl ⟨by kernel_rfl, ?_⟩) hS ?_
      rotate_left
      · (intro w' hSw; have z0_0 := hSw.cell 0 0 rfl rfl; have z0_1 := hSw.cell 0 1 rfl rfl; have z1_0 := hSw.cell 1 0 rfl rfl; have z1_1 := hSw.cell 1 1 rfl rfl; have z1_2 := hSw.cell 1 2 rfl rfl; have z1_3 := hSw.cell 1 3 rfl rfl; have z1_4 := hSw.cell 1 4 rfl rfl; have z1_5 := hSw.cell 1 5 rfl rfl; have z1_6 := hSw.cell 1 6 rfl rfl; have z1_7 := hSw.cell 1 7 rfl rfl; have z1_8 := hSw.cell 1 8 rfl rfl; have z1_9 := hSw.cell 1 9 rfl rfl; have z1_10 := hSw.cell 1 10 rfl rfl; have z2_0 := hSw.cell 2 0 rfl rfl; have z2_1 := hSw.cell 2 1 rfl rfl; have z2_2 := hSw.cell 2 2 rfl rfl; have z2_3 := hSw.cell 2 3 rfl rfl; have z2_4 := hSw.cell 2 4 rfl rfl; have z2_5 := hSw.cell 2 5 rfl rfl; have z2_6 := hSw.cell 2 6 rfl rfl; have z2_7 := hSw.cell 2 7 rfl rfl; have z2_8 := hSw.cell 2 8 rfl rfl; have z2_9 := hSw.cell 2 9 rfl rfl; have z2_10 := hSw.cell 2 10 rfl rfl; have z2_11 := hSw.cell 2 11 rfl rfl; go_simp <;> with_reducible rfl)
      try simp only [List.getElem_toArray, List.getElem_cons_succ, List.getElem_cons_zero, Act.put, List.setIfInBounds_toArray, List.set_cons_zero, List.set_cons_succ]
      refine reg_take (i := 5) (v := ?_) rfl (by kernel_rfl) (by kernel_rfl) (by kernel_rfl) (fun _ _ _ h => h) (Or.inl ⟨by kernel_rfl, ?_⟩) hS ?_
      rotate_left
      · (intro w' hSw; have z0_0 := hSw.cell 0 0 rfl rfl; have z0_1 := hSw.cell 0 1 rfl rfl; have z1_0 := hSw.cell 1 0 rfl rfl; have z1_1 := hSw.cell 1 1 rfl rfl; have z1_2 := hSw.cell 1 2 rfl rfl; have z1_3 := hSw.cell 1 3 rfl rfl; have z1_4 := hSw.cell 1 4 rfl rfl; have z1_5 := hSw.cell 1 5 rfl rfl; have z1_6 := hSw.cell 1 6 rfl rfl; have z1_7 := hSw.cell 1 7 rfl rfl; have z1_8 := hSw.cell 1 8 rfl rfl; have z1_9 := hSw.cell 1 9 rfl rfl; have z1_10 := hSw.cell 1 10 rfl rfl; have z2_0 := hSw.cell 2 0 rfl rfl; have z2_1 := hSw.cell 2 1 rfl rfl; have z2_2 := hSw.cell 2 2 rfl rfl; have z2_3 := hSw.cell 2 3 rfl rfl; have z2_4 := hSw.cell 2 4 rfl rfl; have z2_5 := hSw.cell 2 5 rfl rfl; have z2_6 := hSw.cell 2 6 rfl rfl; have z2_7 := hSw.cell 2 7 rfl rfl; have z2_8 := hSw.cell 2 8 rfl rfl; have z2_9 := hSw.cell 2 9 rfl rfl; have z2_10 := hSw.cell 2 10 rfl rfl; have z2_11 := hSw.cell 2 11 rfl rfl; go_simp <;> with_reducible rfl)
      try simp only [List.getElem_toArray, List.getElem_cons_succ, List.getElem_cons_zero, Act.put, List.setIfInBounds_toArray, List.set_cons_zero, List.set_cons_succ]
      refine reg_take (i := 6) (v := ?_) rfl (by kernel_rfl) (by kernel_rfl) (by kernel_rfl) (fun _ _ _ h => h) (Or.inl ⟨by kernel_rfl, ?_⟩) hS ?_
      rotate_left
      · (intro w' hSw; have z0_0 := hSw.cell 0 0 rfl rfl; have z0_1 := hSw.cell 0 1 rfl rfl; have z1_0 := hSw.cell 1 0 rfl rfl; have z1_1 := hSw.cell 1 1 rfl rfl; have z1_2 := hSw.cell 1 2 rfl rfl; have z1_3 := hSw.cell 1 3 rfl rfl; have z1_4 := hSw.cell 1 4 rfl rfl; have z1_5 := hSw.cell 1 5 rfl rfl; have z1_6 := hSw.cell 1 6 rfl rfl; have z1_7 := hSw.cell 1 7 rfl rfl; have z1_8 := hSw.cell 1 8 rfl rfl; have z1_9 := hSw.cell 1 9 rfl rfl; have z1_10 := hSw.cell 1 10 rfl rfl; have z2_0 := hSw.cell 2 0 rfl rfl; have z2_1 := hSw.cell 2 1 rfl rfl; have z2_2 := hSw.cell 2 2 rfl rfl; have z2_3 := hSw.cell 2 3 rfl rfl; have z2_4 := hSw.cell 2 4 rfl rfl; have z2_5 := hSw.cell 2 5 rfl rfl; have z2_6 := hSw.cell 2 6 rfl rfl; have z2_7 := hSw.cell 2 7 rfl rfl; have z2_8 := hSw.cell 2 8 rfl rfl; have z2_9 := hSw.cell 2 9 rfl rfl; have z2_10 := hSw.cell 2 10 rfl rfl; have z2_11 := hSw.cell 2 11 rfl rfl; go_simp <;> with_reducible rfl)
      try simp only [List.getElem_toArray, List.getElem_cons_succ, List.getElem_cons_zero, Act.put, List.setIfInBounds_toArray, List.set_cons_zero, List.set_cons_succ]
      refine reg_two (i := 3) (j := 11) rfl rfl (by kernel_rfl) (fun K hK => ?_) (fun K hK => ?_)
      · skip
        have HK := Lib.hid hK
        clear hK
        go_simp
        refine (wideOf_any a.hi HO.out.2.2.2.1 _).mono ?_
        rintro e v1 ⟨rfl, hb1⟩
        have HB := Lib.hid (hS.call hb1)
        clear hb1
        go_wp2_with fail
        refine HK.out.go (Own w [(g1, 24, #[.int .i64 (hiOf (a.lo * a.n)), .int .u64 (loOf (a.lo * a.n))]), (x, 28, #[.int .i64 a.n, .int .i64 (hiOf a.s), .int .u64 (loOf a.s), .int .i64 a.lo, .int .i64 a.hi, .int .i64 a.f.t, .int .i64 a.f.v, .int .i64 a.f.s, .int .i64 a.l.t, .int .i64 a.l.v, .int .i64 a.l.s]), (x + 1, 60, #[.int .i64 a.n, .int .i64 (hiOf a.s), .int .u64 (loOf a.s), .int .i64 a.lo, .int .i64 a.hi, .int .i64 a.f.t, .int .i64 a.f.v, .int .i64 a.f.s, .int .i64 a.l.t, .int .i64 a.l.v, .int .i64 a.l.s, .bool true])]) (fun _ h => h) (HB.out) ?_
        clear HK hS
        intro w2 hS
        try simp only [List.getElem_toArray, List.getElem_cons_succ, List.getElem_cons_zero, Act.put, List.setIfInBounds_toArray, List.set_cons_zero, List.set_cons_succ]
        refine reg_two (i := 7) (j := 11) rfl rfl (by kernel_rfl) (fun K hK => ?_) (fun K hK => ?_)
        · skip
          have HK := Lib.hid hK
          clear hK
          go_simp
          refine (times_ok a.hi a.n HO.out.2.2.2.1 (by omega) (by omega) _).mono ?_
          rintro e v2 ⟨rfl, hb2⟩
          have HB := Lib.hid (hS.call hb2)
          clear hb2
          go_wp2_with fail
          refine HK.out.go (Own w [(g1, 24, #[.int .i64 (hiOf (a.lo * a.n)), .int .u64 (loOf (a.lo * a.n))]), (x, 28, #[.int .i64 a.n, .int .i64 (hiOf a.s), .int .u64 (loOf a.s), .int .i64 a.lo, .int .i64 a.hi, .int .i64 a.f.t, .int .i64 a.f.v, .int .i64 a.f.s, .int .i64 a.l.t, .int .i64 a.l.v, .int .i64 a.l.s]), (x + 1, 60, #[.int .i64 a.n, .int .i64 (hiOf a.s), .int .u64 (loOf a.s), .int .i64 a.lo, .int .i64 a.hi, .int .i64 a.f.t, .int .i64 a.f.v, .int .i64 a.f.s, .int .i64 a.l.t, .int .i64 a.l.v, .int .i64 a.l.s, .bool true])]) (fun _ h => h) (HB.out) ?_
          clear HK hS
          intro w3 hS
          try simp only [List.getElem_toArray, List.getElem_cons_succ, List.getElem_cons_zero, Act.put, List.setIfInBounds_toArray, List.set_cons_zero, List.set_cons_succ]
          refine reg_take (i := 8) (v := ?_) rfl (by kernel_rfl) (by kernel_rfl) (by kernel_rfl) (fun _ _ _ h => h) (Or.inl ⟨by kernel_rfl, ?_⟩) hS ?_
          rotate_left
          · (intro w' hSw; go_simp <;> with_reducible rfl)
          try simp only [List.getElem_toArray, List.getElem_cons_succ, List.getElem_cons_zero, Act.put, List.setIfInBounds_toArray, List.set_cons_zero, List.set_cons_succ]
          refine reg_take (i := 9) (v := ?_) rfl (by kernel_rfl) (by kernel_rfl) (by kernel_rfl) (fun _ _ _ h => h) (Or.inl ⟨by kernel_rfl, ?_⟩) hS ?_
          rotate_left
          · (intro w' hSw; go_simp <;> with_reducible rfl)
          try simp only [List.getElem_toArray, List.getElem_cons_succ, List.getElem_cons_zero, Act.put, List.setIfInBounds_toArray, List.set_cons_zero, List.set_cons_succ]
          refine reg_take (i := 10) (v := ?_) rfl (by kernel_rfl) (by kernel_rfl) (by kernel_rfl) (fun _ _ _ h => h) (Or.inl ⟨by kernel_rfl, ?_⟩) hS ?_
          rotate_left
          · (intro w' hSw; go_simp <;> with_reducible rfl)
          try simp only [List.getElem_toArray, List.getElem_cons_succ, List.getElem_cons_zero, Act.put, List.setIfInBounds_toArray, List.set_cons_zero, List.set_cons_succ]
          obtain ⟨g, hg⟩ : ∃ g, g = w3.heap.size := ⟨_, rfl⟩
          have HA := Lib.hid (And.intro hg ((hS.alloc (show g = w3.heap.size from hg) 24 #[.int .i64 0, .int .u64 0]).front 3 rfl))
          clear hg
          refine reg_call (i := 11) rfl (by kernel_rfl) (fun K hK => ?_)
          have HK := Lib.hid hK
          clear hK
          go_simp
          rw [← HA.out.1]
          go_wp2_with fail
          refine HK.out.go (OwnR w g 24 2 [(g1, 24, #[.int .i64 (hiOf (a.lo * a.n)), .int .u64 (loOf (a.lo * a.n))]), (x, 28, #[.int .i64 a.n, .int .i64 (hiOf a.s), .int .u64 (loOf a.s), .int .i64 a.lo, .int .i64 a.hi, .int .i64 a.f.t, .int .i64 a.f.v, .int .i64 a.f.s, .int .i64 a.l.t, .int .i64 a.l.v, .int .i64 a.l.s]), (x + 1, 60, #[.int .i64 a.n, .int .i64 (hiOf a.s), .int .u64 (loOf a.s), .int .i64 a.lo, .int .i64 a.hi, .int .i64 a.f.t, .int .i64 a.f.v, .int .i64 a.f.s, .int .i64 a.l.t, .int .i64 a.l.v, .int .i64 a.l.s, .bool true])]) (fun _ h => h.rest) (OwnR.of HA.out.2 rfl) ?_
          clear HK hS
          intro v4 hS
          try simp only [List.getElem_toArray, List.getElem_cons_succ, List.getElem_cons_zero, Act.put, List.setIfInBounds_toArray, List.set_cons_zero, List.set_cons_succ]
          obtain ⟨c0, c1, hO⟩ := hS.two
          have z0_0 := hO.cell 0 0 rfl rfl; have z0_1 := hO.cell 0 1 rfl rfl
          have zf0 := hO.free 0 rfl
          have HW := Lib.hid (hS.put [.int .i64 (hiOf (a.hi * a.n)), .int .u64 (loOf (a.hi * a.n))] rfl)
          clear hO
          refine reg_call (i := 12) rfl (by kernel_rfl) (fun K hK => ?_)
          have HK := Lib.hid hK
          clear hK
          go_simp
          go_wp2_with fail
          refine HK.out.go (Own w [(g, 24, #[.int .i64 (hiOf (a.hi * a.n)), .int .u64 (loOf (a.hi * a.n))]), (g1, 24, #[.int .i64 (hiOf (a.lo * a.n)), .int .u64 (loOf (a.lo * a.n))]), (x, 28, #[.int .i64 a.n, .int .i64 (hiOf a.s), .int .u64 (loOf a.s), .int .i64 a.lo, .int .i64 a.hi, .int .i64 a.f.t, .int .i64 a.f.v, .int .i64 a.f.s, .int .i64 a.l.t, .int .i64 a.l.v, .int .i64 a.l.s]), (x + 1, 60, #[.int .i64 a.n, .int .i64 (hiOf a.s), .int .u64 (loOf a.s), .int .i64 a.lo, .int .i64 a.hi, .int .i64 a.f.t, .int .i64 a.f.v, .int .i64 a.f.s, .int .i64 a.l.t, .int .i64 a.l.v, .int .i64 a.l.s, .bool true])]) (fun _ h => OwnR.of h rfl) (HW.out) ?_
          clear HK hS
          intro v9 hS
          try simp only [List.getElem_toArray, List.getElem_cons_succ, List.getElem_cons_zero, Act.put, List.setIfInBounds_toArray, List.set_cons_zero, List.set_cons_succ]
          refine reg_take (i := 13) (v := ?_) rfl (by kernel_rfl) (by kernel_rfl) (by kernel_rfl) (fun _ _ _ h => h) (Or.inl ⟨by kernel_rfl, ?_⟩) hS ?_
          rotate_left
          · (intro w' hSw; go_simp <;> with_reducible rfl)
          try simp only [List.getElem_toArray, List.getElem_cons_succ, List.getElem_cons_zero, Act.put, List.setIfInBounds_toArray, List.set_cons_zero, List.set_cons_succ]
          refine wpAnyH_done (by kernel_rfl) ?_ _
          try simp only [List.getElem_toArray, List.getElem_cons_succ, List.getElem_cons_zero]
          try simp only [List.getElem_toArray, List.getElem_cons_succ, List.getElem_cons_zero, Act.put, List.setIfInBounds_toArray, List.set_cons_zero, List.set_cons_succ]
          have HU := Lib.hid hS
          clear hS
          go_wp2_with fail
          go_meet
          exact ⟨rfl, g, rfl, HU.out⟩
        · skip
          obtain ⟨g, hg⟩ : ∃ g, g = w2.heap.size := ⟨_, rfl⟩
          have HA := Lib.hid (And.intro hg ((hS.alloc (show g = w2.heap.size from hg) 24 #[.int .i64 0, .int .u64 0]).front 3 rfl))
          clear hg
          have HK := Lib.hid hK
          clear hK
          go_simp
          rw [← HA.out.1]
          go_wp2_with fail
          refine HK.out.go (OwnR w g 24 2 [(g1, 24, #[.int .i64 (hiOf (a.lo * a.n)), .int .u64 (loOf (a.lo * a.n))]), (x, 28, #[.int .i64 a.n, .int .i64 (hiOf a.s), .int .u64 (loOf a.s), .int .i64 a.lo, .int .i64 a.hi, .int .i64 a.f.t, .int .i64 a.f.v, .int .i64 a.f.s, .int .i64 a.l.t, .int .i64 a.l.v, .int .i64 a.l.s]), (x + 1, 60, #[.int .i64 a.n, .int .i64 (hiOf a.s), .int .u64 (loOf a.s), .int .i64 a.lo, .int .i64 a.hi, .int .i64 a.f.t, .int .i64 a.f.v, .int .i64 a.f.s, .int .i64 a.l.t, .int .i64 a.l.v, .int .i64 a.l.s, .bool true])]) (fun _ h => h.rest) (OwnR.of HA.out.2 rfl) ?_
          clear HK hS
          intro v4 hS
          try simp only [List.getElem_toArray, List.getElem_cons_succ, List.getElem_cons_zero, Act.put, List.setIfInBounds_toArray, List.set_cons_zero, List.set_cons_succ]
          refine reg_call (i := 7) rfl (by kernel_rfl) (fun K hK => ?_)
          have HK := Lib.hid hK
          clear hK
          go_simp
          refine (times_ok a.hi a.n HO.out.2.2.2.1 (by omega) (by omega) _).mono ?_
          rintro e v2 ⟨rfl, hb2⟩
          have HB := Lib.hid (hS.call hb2)
          clear hb2
          go_wp2_with fail
          refine HK.out.go (OwnR w g 24 2 [(g1, 24, #[.int .i64 (hiOf (a.lo * a.n)), .int .u64 (loOf (a.lo * a.n))]), (x, 28, #[.int .i64 a.n, .int .i64 (hiOf a.s), .int .u64 (loOf a.s), .int .i64 a.lo, .int .i64 a.hi, .int .i64 a.f.t, .int .i64 a.f.v, .int .i64 a.f.s, .int .i64 a.l.t, .int .i64 a.l.v, .int .i64 a.l.s]), (x + 1, 60, #[.int .i64 a.n, .int .i64 (hiOf a.s), .int .u64 (loOf a.s), .int .i64 a.lo, .int .i64 a.hi, .int .i64 a.f.t, .int .i64 a.f.v, .int .i64 a.f.s, .int .i64 a.l.t, .int .i64 a.l.v, .int .i64 a.l.s, .bool true])]) (fun _ h => h) (HB.out) ?_
          clear HK hS
          intro w3 hS
          try simp only [List.getElem_toArray, List.getElem_cons_succ, List.getElem_cons_zero, Act.put, List.setIfInBounds_toArray, List.set_cons_zero, List.set_cons_succ]
          refine reg_take (i := 8) (v := ?_) rfl (by kernel_rfl) (by kernel_rfl) (by kernel_rfl) (fun _ _ _ h => h) (Or.inl ⟨by kernel_rfl, ?_⟩) hS ?_
          rotate_left
          · (intro w' hSw; go_simp <;> with_reducible rfl)
          try simp only [List.getElem_toArray, List.getElem_cons_succ, List.getElem_cons_zero, Act.put, List.setIfInBounds_toArray, List.set_cons_zero, List.set_cons_succ]
          refine reg_take (i := 9) (v := ?_) rfl (by kernel_rfl) (by kernel_rfl) (by kernel_rfl) (fun _ _ _ h => h) (Or.inl ⟨by kernel_rfl, ?_⟩) hS ?_
          rotate_left
          · (intro w' hSw; go_simp <;> with_reducible rfl)
          try simp only [List.getElem_toArray, List.getElem_cons_succ, List.getElem_cons_zero, Act.put, List.setIfInBounds_toArray, List.set_cons_zero, List.set_cons_succ]
          refine reg_take (i := 10) (v := ?_) rfl (by kernel_rfl) (by kernel_rfl) (by kernel_rfl) (fun _ _ _ h => h) (Or.inl ⟨by kernel_rfl, ?_⟩) hS ?_
          rotate_left
          · (intro w' hSw; go_simp <;> with_reducible rfl)
          try simp only [List.getElem_toArray, List.getElem_cons_succ, List.getElem_cons_zero, Act.put, List.setIfInBounds_toArray, List.set_cons_zero, List.set_cons_succ]
          obtain ⟨c0, c1, hO⟩ := hS.two
          have z0_0 := hO.cell 0 0 rfl rfl; have z0_1 := hO.cell 0 1 rfl rfl
          have zf0 := hO.free 0 rfl
          have HW := Lib.hid (hS.put [.int .i64 (hiOf (a.hi * a.n)), .int .u64 (loOf (a.hi * a.n))] rfl)
          clear hO
          refine reg_call (i := 12) rfl (by kernel_rfl) (fun K hK => ?_)
          have HK := Lib.hid hK
          clear hK
          go_simp
          go_wp2_with fail
          refine HK.out.go (Own w [(g, 24, #[.int .i64 (hiOf (a.hi * a.n)), .int .u64 (loOf (a.hi * a.n))]), (g1, 24, #[.int .i64 (hiOf (a.lo * a.n)), .int .u64 (loOf (a.lo * a.n))]), (x, 28, #[.int .i64 a.n, .int .i64 (hiOf a.s), .int .u64 (loOf a.s), .int .i64 a.lo, .int .i64 a.hi, .int .i64 a.f.t, .int .i64 a.f.v, .int .i64 a.f.s, .int .i64 a.l.t, .int .i64 a.l.v, .int .i64 a.l.s]), (x + 1, 60, #[.int .i64 a.n, .int .i64 (hiOf a.s), .int .u64 (loOf a.s), .int .i64 a.lo, .int .i64 a.hi, .int .i64 a.f.t, .int .i64 a.f.v, .int .i64 a.f.s, .int .i64 a.l.t, .int .i64 a.l.v, .int .i64 a.l.s, .bool true])]) (fun _ h => OwnR.of h rfl) (HW.out) ?_
          clear HK hS
          intro v9 hS
          try simp only [List.getElem_toArray, List.getElem_cons_succ, List.getElem_cons_zero, Act.put, List.setIfInBounds_toArray, List.set_cons_zero, List.set_cons_succ]
          refine reg_take (i := 13) (v := ?_) rfl (by kernel_rfl) (by kernel_rfl) (by kernel_rfl) (fun _ _ _ h => h) (Or.inl ⟨by kernel_rfl, ?_⟩) hS ?_
          rotate_left
          · (intro w' hSw; go_simp <;> with_reducible rfl)
          try simp only [List.getElem_toArray, List.getElem_cons_succ, List.getElem_cons_zero, Act.put, List.setIfInBounds_toArray, List.set_cons_zero, List.set_cons_succ]
          refine wpAnyH_done (by kernel_rfl) ?_ _
          try simp only [List.getElem_toArray, List.getElem_cons_succ, List.getElem_cons_zero]
          try simp only [List.getElem_toArray, List.getElem_cons_succ, List.getElem_cons_zero, Act.put, List.setIfInBounds_toArray, List.set_cons_zero, List.set_cons_succ]
          have HU := Lib.hid hS
          clear hS
          go_wp2_with fail
          go_meet
          exact ⟨rfl, g, rfl, HU.out⟩
      · skip
        obtain ⟨g, hg⟩ : ∃ g, g = wc.heap.size := ⟨_, rfl⟩
        have HA := Lib.hid (And.intro hg ((hS.alloc (show g = wc.drew.heap.size from hg) 24 #[.int .i64 0, .int .u64 0]).front 3 rfl))
        clear hg
        have HK := Lib.hid hK
        clear hK
        go_simp
        rw [← HA.out.1]
        go_wp2_with fail
        refine HK.out.go (OwnR w g 24 2 [(g1, 24, #[.int .i64 (hiOf (a.lo * a.n)), .int .u64 (loOf (a.lo * a.n))]), (x, 28, #[.int .i64 a.n, .int .i64 (hiOf a.s), .int .u64 (loOf a.s), .int .i64 a.lo, .int .i64 a.hi, .int .i64 a.f.t, .int .i64 a.f.v, .int .i64 a.f.s, .int .i64 a.l.t, .int .i64 a.l.v, .int .i64 a.l.s]), (x + 1, 60, #[.int .i64 a.n, .int .i64 (hiOf a.s), .int .u64 (loOf a.s), .int .i64 a.lo, .int .i64 a.hi, .int .i64 a.f.t, .int .i64 a.f.v, .int .i64 a.f.s, .int .i64 a.l.t, .int .i64 a.l.v, .int .i64 a.l.s, .bool true])]) (fun _ h => h.rest) (OwnR.of HA.out.2 rfl) ?_
        clear HK hS
        intro v4 hS
        try simp only [List.getElem_toArray, List.getElem_cons_succ, List.getElem_cons_zero, Act.put, List.setIfInBounds_toArray, List.set_cons_zero, List.set_cons_succ]
        refine reg_call (i := 3) rfl (by kernel_rfl) (fun K hK => ?_)
        have HK := Lib.hid hK
        clear hK
        go_simp
        refine (wideOf_any a.hi HO.out.2.2.2.1 _).mono ?_
        rintro e v1 ⟨rfl, hb1⟩
        have HB := Lib.hid (hS.call hb1)
        clear hb1
        go_wp2_with fail
        refine HK.out.go (OwnR w g 24 2 [(g1, 24, #[.int .i64 (hiOf (a.lo * a.n)), .int .u64 (loOf (a.lo * a.n))]), (x, 28, #[.int .i64 a.n, .int .i64 (hiOf a.s), .int .u64 (loOf a.s), .int .i64 a.lo, .int .i64 a.hi, .int .i64 a.f.t, .int .i64 a.f.v, .int .i64 a.f.s, .int .i64 a.l.t, .int .i64 a.l.v, .int .i64 a.l.s]), (x + 1, 60, #[.int .i64 a.n, .int .i64 (hiOf a.s), .int .u64 (loOf a.s), .int .i64 a.lo, .int .i64 a.hi, .int .i64 a.f.t, .int .i64 a.f.v, .int .i64 a.f.s, .int .i64 a.l.t, .int .i64 a.l.v, .int .i64 a.l.s, .bool true])]) (fun _ h => h) (HB.out) ?_
        clear HK hS
        intro w2 hS
        try simp only [List.getElem_toArray, List.getElem_cons_succ, List.getElem_cons_zero, Act.put, List.setIfInBounds_toArray, List.set_cons_zero, List.set_cons_succ]
        refine reg_call (i := 7) rfl (by kernel_rfl) (fun K hK => ?_)
        have HK := Lib.hid hK
        clear hK
        go_simp
        refine (times_ok a.hi a.n HO.out.2.2.2.1 (by omega) (by omega) _).mono ?_
        rintro e v2 ⟨rfl, hb2⟩
        have HB := Lib.hid (hS.call hb2)
        clear hb2
        go_wp2_with fail
        refine HK.out.go (OwnR w g 24 2 [(g1, 24, #[.int .i64 (hiOf (a.lo * a.n)), .int .u64 (loOf (a.lo * a.n))]), (x, 28, #[.int .i64 a.n, .int .i64 (hiOf a.s), .int .u64 (loOf a.s), .int .i64 a.lo, .int .i64 a.hi, .int .i64 a.f.t, .int .i64 a.f.v, .int .i64 a.f.s, .int .i64 a.l.t, .int .i64 a.l.v, .int .i64 a.l.s]), (x + 1, 60, #[.int .i64 a.n, .int .i64 (hiOf a.s), .int .u64 (loOf a.s), .int .i64 a.lo, .int .i64 a.hi, .int .i64 a.f.t, .int .i64 a.f.v, .int .i64 a.f.s, .int .i64 a.l.t, .int .i64 a.l.v, .int .i64 a.l.s, .bool true])]) (fun _ h => h) (HB.out) ?_
        clear HK hS
        intro w3 hS
        try simp only [List.getElem_toArray, List.getElem_cons_succ, List.getElem_cons_zero, Act.put, List.setIfInBounds_toArray, List.set_cons_zero, List.set_cons_succ]
        refine reg_take (i := 8) (v := ?_) rfl (by kernel_rfl) (by kernel_rfl) (by kernel_rfl) (fun _ _ _ h => h) (Or.inl ⟨by kernel_rfl, ?_⟩) hS ?_
        rotate_left
        · (intro w' hSw; go_simp <;> with_reducible rfl)
        try simp only [List.getElem_toArray, List.getElem_cons_succ, List.getElem_cons_zero, Act.put, List.setIfInBounds_toArray, List.set_cons_zero, List.set_cons_succ]
        refine reg_take (i := 9) (v := ?_) rfl (by kernel_rfl) (by kernel_rfl) (by kernel_rfl) (fun _ _ _ h => h) (Or.inl ⟨by kernel_rfl, ?_⟩) hS ?_
        rotate_left
        · (intro w' hSw; go_simp <;> with_reducible rfl)
        try simp only [List.getElem_toArray, List.getElem_cons_succ, List.getElem_cons_zero, Act.put, List.setIfInBounds_toArray, List.set_cons_zero, List.set_cons_succ]
        refine reg_take (i := 10) (v := ?_) rfl (by kernel_rfl) (by kernel_rfl) (by kernel_rfl) (fun _ _ _ h => h) (Or.inl ⟨by kernel_rfl, ?_⟩) hS ?_
        rotate_left
        · (intro w' hSw; go_simp <;> with_reducible rfl)
        try simp only [List.getElem_toArray, List.getElem_cons_succ, List.getElem_cons_zero, Act.put, List.setIfInBounds_toArray, List.set_cons_zero, List.set_cons_succ]
        obtain ⟨c0, c1, hO⟩ := hS.two
        have z0_0 := hO.cell 0 0 rfl rfl; have z0_1 := hO.cell 0 1 rfl rfl
        have zf0 := hO.free 0 rfl
        have HW := Lib.hid (hS.put [.int .i64 (hiOf (a.hi * a.n)), .int .u64 (loOf (a.hi * a.n))] rfl)
        clear hO
        refine reg_call (i := 12) rfl (by kernel_rfl) (fun K hK => ?_)
        have HK := Lib.hid hK
        clear hK
        go_simp
        go_wp2_with fail
        refine HK.out.go (Own w [(g, 24, #[.int .i64 (hiOf (a.hi * a.n)), .int .u64 (loOf (a.hi * a.n))]), (g1, 24, #[.int .i64 (hiOf (a.lo * a.n)), .int .u64 (loOf (a.lo * a.n))]), (x, 28, #[.int .i64 a.n, .int .i64 (hiOf a.s), .int .u64 (loOf a.s), .int .i64 a.lo, .int .i64 a.hi, .int .i64 a.f.t, .int .i64 a.f.v, .int .i64 a.f.s, .int .i64 a.l.t, .int .i64 a.l.v, .int .i64 a.l.s]), (x + 1, 60, #[.int .i64 a.n, .int .i64 (hiOf a.s), .int .u64 (loOf a.s), .int .i64 a.lo, .int .i64 a.hi, .int .i64 a.f.t, .int .i64 a.f.v, .int .i64 a.f.s, .int .i64 a.l.t, .int .i64 a.l.v, .int .i64 a.l.s, .bool true])]) (fun _ h => OwnR.of h rfl) (HW.out) ?_
        clear HK hS
        intro v9 hS
        try simp only [List.getElem_toArray, List.getElem_cons_succ, List.getElem_cons_zero, Act.put, List.setIfInBounds_toArray, List.set_cons_zero, List.set_cons_succ]
        refine reg_take (i := 13) (v := ?_) rfl (by kernel_rfl) (by kernel_rfl) (by kernel_rfl) (fun _ _ _ h => h) (Or.inl ⟨by kernel_rfl, ?_⟩) hS ?_
        rotate_left
        · (intro w' hSw; go_simp <;> with_reducible rfl)
        try simp only [List.getElem_toArray, List.getElem_cons_succ, List.getElem_cons_zero, Act.put, List.setIfInBounds_toArray, List.set_cons_zero, List.set_cons_succ]
        refine wpAnyH_done (by kernel_rfl) ?_ _
        try simp only [List.getElem_toArray, List.getElem_cons_succ, List.getElem_cons_zero]
        try simp only [List.getElem_toArray, List.getElem_cons_succ, List.getElem_cons_zero, Act.put, List.setIfInBounds_toArray, List.set_cons_zero, List.set_cons_succ]
        have HU := Lib.hid hS
        clear hS
        go_wp2_with fail
        go_meet
        exact ⟨rfl, g, rfl, HU.out⟩
    case rest =>
      obtain ⟨rfl, g2, rfl, hS⟩ := hcut
      clear HS
      have z0_0 := hS.cell 0 0 rfl rfl; have z0_1 := hS.cell 0 1 rfl rfl; have z1_0 := hS.cell 1 0 rfl rfl; have z1_1 := hS.cell 1 1 rfl rfl; have z2_0 := hS.cell 2 0 rfl rfl; have z2_1 := hS.cell 2 1 rfl rfl; have z2_2 := hS.cell 2 2 rfl rfl; have z2_3 := hS.cell 2 3 rfl rfl; have z2_4 := hS.cell 2 4 rfl rfl; have z2_5 := hS.cell 2 5 rfl rfl; have z2_6 := hS.cell 2 6 rfl rfl; have z2_7 := hS.cell 2 7 rfl rfl; have z2_8 := hS.cell 2 8 rfl rfl; have z2_9 := hS.cell 2 9 rfl rfl; have z2_10 := hS.cell 2 10 rfl rfl; have z3_0 := hS.cell 3 0 rfl rfl; have z3_1 := hS.cell 3 1 rfl rfl; have z3_2 := hS.cell 3 2 rfl rfl; have z3_3 := hS.cell 3 3 rfl rfl; have z3_4 := hS.cell 3 4 rfl rfl; have z3_5 := hS.cell 3 5 rfl rfl; have z3_6 := hS.cell 3 6 rfl rfl; have z3_7 := hS.cell 3 7 rfl rfl; have z3_8 := hS.cell 3 8 rfl rfl; have z3_9 := hS.cell 3 9 rfl rfl; have z3_10 := hS.cell 3 10 rfl rfl; have z3_11 := hS.cell 3 11 rfl rfl
      have HS := Lib.hid hS
      clear hS
      go_wp2_with fail
      refine (wcmp_any a.s (a.lo * a.n) _).mono ?_
      rintro e w7 ⟨rfl, hb⟩
      have hS := HS.out.call hb
      clear HS hb z0_0 z0_1 z1_0 z1_1 z2_0 z2_1 z2_2 z2_3 z2_4 z2_5 z2_6 z2_7 z2_8 z2_9 z2_10 z3_0 z3_1 z3_2 z3_3 z3_4 z3_5 z3_6 z3_7 z3_8 z3_9 z3_10 z3_11
      by_cases c7 : a.s < a.lo * a.n
      · rw [show cmpI a.s (a.lo * a.n) = -1 by unfold cmpI; rw [if_pos c7]]
        have z0_0 := hS.cell 0 0 rfl rfl; have z0_1 := hS.cell 0 1 rfl rfl; have z1_0 := hS.cell 1 0 rfl rfl; have z1_1 := hS.cell 1 1 rfl rfl; have z2_0 := hS.cell 2 0 rfl rfl; have z2_1 := hS.cell 2 1 rfl rfl; have z2_2 := hS.cell 2 2 rfl rfl; have z2_3 := hS.cell 2 3 rfl rfl; have z2_4 := hS.cell 2 4 rfl rfl; have z2_5 := hS.cell 2 5 rfl rfl; have z2_6 := hS.cell 2 6 rfl rfl; have z2_7 := hS.cell 2 7 rfl rfl; have z2_8 := hS.cell 2 8 rfl rfl; have z2_9 := hS.cell 2 9 rfl rfl; have z2_10 := hS.cell 2 10 rfl rfl; have z3_0 := hS.cell 3 0 rfl rfl; have z3_1 := hS.cell 3 1 rfl rfl; have z3_2 := hS.cell 3 2 rfl rfl; have z3_3 := hS.cell 3 3 rfl rfl; have z3_4 := hS.cell 3 4 rfl rfl; have z3_5 := hS.cell 3 5 rfl rfl; have z3_6 := hS.cell 3 6 rfl rfl; have z3_7 := hS.cell 3 7 rfl rfl; have z3_8 := hS.cell 3 8 rfl rfl; have z3_9 := hS.cell 3 9 rfl rfl; have z3_10 := hS.cell 3 10 rfl rfl; have z3_11 := hS.cell 3 11 rfl rfl
        have HS := Lib.hid hS
        clear hS
        have HF := Lib.hid (show bv = false by rw [HV.out, if_neg (fun h => h c4), if_neg (fun h => h c5), if_neg (show ¬ ordI a.l a.f < 0 by omega), if_pos c7])
        go_wp2_with fail
        go_ret
        exact ⟨by first | (rw [HF.out]; done) | (rw [HF.out]; rfl), HS.out.bel⟩
      have d7 : decide (cmpI a.s (a.lo * a.n) < 0) = false := by unfold cmpI; rw [if_neg (show ¬ a.s < a.lo * a.n by omega)]; split <;> simp
      have z0_0 := hS.cell 0 0 rfl rfl; have z0_1 := hS.cell 0 1 rfl rfl; have z1_0 := hS.cell 1 0 rfl rfl; have z1_1 := hS.cell 1 1 rfl rfl; have z2_0 := hS.cell 2 0 rfl rfl; have z2_1 := hS.cell 2 1 rfl rfl; have z2_2 := hS.cell 2 2 rfl rfl; have z2_3 := hS.cell 2 3 rfl rfl; have z2_4 := hS.cell 2 4 rfl rfl; have z2_5 := hS.cell 2 5 rfl rfl; have z2_6 := hS.cell 2 6 rfl rfl; have z2_7 := hS.cell 2 7 rfl rfl; have z2_8 := hS.cell 2 8 rfl rfl; have z2_9 := hS.cell 2 9 rfl rfl; have z2_10 := hS.cell 2 10 rfl rfl; have z3_0 := hS.cell 3 0 rfl rfl; have z3_1 := hS.cell 3 1 rfl rfl; have z3_2 := hS.cell 3 2 rfl rfl; have z3_3 := hS.cell 3 3 rfl rfl; have z3_4 := hS.cell 3 4 rfl rfl; have z3_5 := hS.cell 3 5 rfl rfl; have z3_6 := hS.cell 3 6 rfl rfl; have z3_7 := hS.cell 3 7 rfl rfl; have z3_8 := hS.cell 3 8 rfl rfl; have z3_9 := hS.cell 3 9 rfl rfl; have z3_10 := hS.cell 3 10 rfl rfl; have z3_11 := hS.cell 3 11 rfl rfl
      have HS := Lib.hid hS
      clear hS
      go_wp2_with fail
      refine (wcmp_any a.s (a.hi * a.n) _).mono ?_
      rintro e w8 ⟨rfl, hb⟩
      have hS := HS.out.call hb
      clear HS hb z0_0 z0_1 z1_0 z1_1 z2_0 z2_1 z2_2 z2_3 z2_4 z2_5 z2_6 z2_7 z2_8 z2_9 z2_10 z3_0 z3_1 z3_2 z3_3 z3_4 z3_5 z3_6 z3_7 z3_8 z3_9 z3_10 z3_11
      clear d7
      by_cases c8 : a.hi * a.n < a.s
      · rw [show cmpI a.s (a.hi * a.n) = 1 by unfold cmpI; rw [if_neg (by omega), if_pos c8]]
        have z0_0 := hS.cell 0 0 rfl rfl; have z0_1 := hS.cell 0 1 rfl rfl; have z1_0 := hS.cell 1 0 rfl rfl; have z1_1 := hS.cell 1 1 rfl rfl; have z2_0 := hS.cell 2 0 rfl rfl; have z2_1 := hS.cell 2 1 rfl rfl; have z2_2 := hS.cell 2 2 rfl rfl; have z2_3 := hS.cell 2 3 rfl rfl; have z2_4 := hS.cell 2 4 rfl rfl; have z2_5 := hS.cell 2 5 rfl rfl; have z2_6 := hS.cell 2 6 rfl rfl; have z2_7 := hS.cell 2 7 rfl rfl; have z2_8 := hS.cell 2 8 rfl rfl; have z2_9 := hS.cell 2 9 rfl rfl; have z2_10 := hS.cell 2 10 rfl rfl; have z3_0 := hS.cell 3 0 rfl rfl; have z3_1 := hS.cell 3 1 rfl rfl; have z3_2 := hS.cell 3 2 rfl rfl; have z3_3 := hS.cell 3 3 rfl rfl; have z3_4 := hS.cell 3 4 rfl rfl; have z3_5 := hS.cell 3 5 rfl rfl; have z3_6 := hS.cell 3 6 rfl rfl; have z3_7 := hS.cell 3 7 rfl rfl; have z3_8 := hS.cell 3 8 rfl rfl; have z3_9 := hS.cell 3 9 rfl rfl; have z3_10 := hS.cell 3 10 rfl rfl; have z3_11 := hS.cell 3 11 rfl rfl
        have HS := Lib.hid hS
        clear hS
        have HF := Lib.hid (show bv = false by rw [HV.out, if_neg (fun h => h c4), if_neg (fun h => h c5), if_neg (show ¬ ordI a.l a.f < 0 by omega), if_neg (show ¬ a.s < a.lo * a.n by omega), if_pos c8])
        go_wp2_with fail
        go_ret
        exact ⟨by first | (rw [HF.out]; done) | (rw [HF.out]; rfl), HS.out.bel⟩
      have d8 : decide (0 < cmpI a.s (a.hi * a.n)) = false := by
        unfold cmpI
        rw [if_neg (show ¬ a.hi * a.n < a.s by omega)]
        split <;> simp
      have HW := Lib.hid (show bv = (if 1 < a.n then true else if eqP a.f a.l = false then false else decide (a.lo = a.hi)) by rw [HV.out, if_neg (fun h => h c4), if_neg (fun h => h c5), if_neg (show ¬ ordI a.l a.f < 0 by omega), if_neg (show ¬ a.s < a.lo * a.n by omega), if_neg (show ¬ a.hi * a.n < a.s by omega)])
      clear c4 c5 c6 c7 c8
      have z0_0 := hS.cell 0 0 rfl rfl; have z0_1 := hS.cell 0 1 rfl rfl; have z1_0 := hS.cell 1 0 rfl rfl; have z1_1 := hS.cell 1 1 rfl rfl; have z2_0 := hS.cell 2 0 rfl rfl; have z2_1 := hS.cell 2 1 rfl rfl; have z2_2 := hS.cell 2 2 rfl rfl; have z2_3 := hS.cell 2 3 rfl rfl; have z2_4 := hS.cell 2 4 rfl rfl; have z2_5 := hS.cell 2 5 rfl rfl; have z2_6 := hS.cell 2 6 rfl rfl; have z2_7 := hS.cell 2 7 rfl rfl; have z2_8 := hS.cell 2 8 rfl rfl; have z2_9 := hS.cell 2 9 rfl rfl; have z2_10 := hS.cell 2 10 rfl rfl; have z3_0 := hS.cell 3 0 rfl rfl; have z3_1 := hS.cell 3 1 rfl rfl; have z3_2 := hS.cell 3 2 rfl rfl; have z3_3 := hS.cell 3 3 rfl rfl; have z3_4 := hS.cell 3 4 rfl rfl; have z3_5 := hS.cell 3 5 rfl rfl; have z3_6 := hS.cell 3 6 rfl rfl; have z3_7 := hS.cell 3 7 rfl rfl; have z3_8 := hS.cell 3 8 rfl rfl; have z3_9 := hS.cell 3 9 rfl rfl; have z3_10 := hS.cell 3 10 rfl rfl; have z3_11 := hS.cell 3 11 rfl rfl
      have HS := Lib.hid hS
      clear hS
      by_cases c9 : 1 < a.n
      · have HF := Lib.hid (show bv = true by rw [HW.out, if_pos c9])
        have d9 : decide (1 < a.n) = true := by simp [c9]
        go_wp2_with fail
        go_ret
        exact ⟨by first | (rw [HF.out]; done) | (rw [HF.out]; rfl), HS.out.bel⟩
      have d9 : decide (1 < a.n) = false := by simp; omega
      have HX := Lib.hid (show bv = (if eqP a.f a.l = false then false else decide (a.lo = a.hi)) by rw [HW.out, if_neg c9])
      clear c9
      by_cases f1 : a.f.t = a.l.t
      · have e1 : (a.f.t == a.l.t) = true := by simp [f1]
        by_cases f2 : a.f.v = a.l.v
        · have e2 : (a.f.v == a.l.v) = true := by simp [f2]
          by_cases f3 : a.f.s = a.l.s
          · have e3 : (a.f.s == a.l.s) = true := by simp [f3]
            have HY := Lib.hid (show bv = decide (a.lo = a.hi) by rw [HX.out, if_neg (by unfold eqP; rw [e1, e2, e3]; simp)])
            by_cases f4 : a.lo = a.hi
            · have e4 : (a.lo == a.hi) = true := by simp [f4]
              have HF := Lib.hid (show bv = true by rw [HY.out]; simp [f4])
              go_wp2_with fail
              go_ret
              exact ⟨by first | (rw [HF.out]; done) | (rw [HF.out]; rfl), HS.out.bel⟩
            · have e4 : (a.lo == a.hi) = false := by simp [f4]
              have HF := Lib.hid (show bv = false by rw [HY.out]; simp [f4])
              go_wp2_with fail
              go_ret
              exact ⟨by first | (rw [HF.out]; done) | (rw [HF.out]; rfl), HS.out.bel⟩
          · have e3 : (a.f.s == a.l.s) = false := by simp [f3]
            have HF := Lib.hid (show bv = false by rw [HX.out, if_pos (by unfold eqP; rw [e3]; simp)])
            go_wp2_with fail
            go_ret
            exact ⟨by first | (rw [HF.out]; done) | (rw [HF.out]; rfl), HS.out.bel⟩
        · have e2 : (a.f.v == a.l.v) = false := by simp [f2]
          have HF := Lib.hid (show bv = false by rw [HX.out, if_pos (by unfold eqP; rw [e2]; simp)])
          go_wp2_with fail
          go_ret
          exact ⟨by first | (rw [HF.out]; done) | (rw [HF.out]; rfl), HS.out.bel⟩
      · have e1 : (a.f.t == a.l.t) = false := by simp [f1]
        have HF := Lib.hid (show bv = false by rw [HX.out, if_pos (by unfold eqP; rw [e1]; simp)])
        go_wp2_with fail
        go_ret
        exact ⟨by first | (rw [HF.out]; done) | (rw [HF.out]; rfl), HS.out.bel⟩
end Go.Proofs.YthhgnngpaagagaaDoor
