/-
  The contracts of (wide.Sum).Int and of aggr.Mean. (Printed by mk.py.)
-/
import Derived.Test.YthhgnngpaagagaaAgO
namespace Go.Proofs.Ythhgnngpaagagaa
open Go.RowKit
set_option linter.unusedVariables false
set_option linter.unusedSimpArgs false
def IntPost (s : Int) (w : World) (e : Ending) (w' : World) : Prop :=
  e = .returned (.tuple #[.int .i64 (if -9223372036854775808 ≤ s ∧ s ≤ 9223372036854775807 then s else 0), .bool (decide (-9223372036854775808 ≤ s ∧ s ≤ 9223372036854775807))]) ∧ Below w.heap.size w w'
theorem ret_pair {a b : Int} {c d : Bool} (h : a = b) (h' : c = d) : Ending.returned (.tuple #[.int .i64 a, .bool c]) = Ending.returned (.tuple #[.int .i64 b, .bool d]) := by rw [h, h']
set_option maxRecDepth 100000 in
set_option maxHeartbeats 4000000 in
theorem int_any (s : Int) (hs : S128 s) (w : World) : Calls Try.prog 28 #[.agg #[.int .i64 (hiOf s), .int .u64 (loOf s)]] w (IntPost s w) := by
  obtain ⟨x, hx⟩ : ∃ x, x = w.heap.size := ⟨_, rfl⟩
  have o0 := (Own.own1 w hx 25 #[.int .i64 (hiOf s), .int .u64 (loOf s)]).drew
  obtain ⟨t, ht⟩ : ∃ t, t = IntKind.i64.wrap (loOf s) := ⟨_, rfl⟩
  have t0 : -9223372036854775808 ≤ t ∧ t ≤ 9223372036854775807 := by rw [ht]; simp only [IntKind.wrap_i64]; omega
  have t1 : loOf t = loOf s := by rw [ht]; simp only [IntKind.wrap_i64]; unfold loOf; omega
  have t2 : (-9223372036854775808 ≤ s ∧ s ≤ 9223372036854775807) → t = s := fun h => by rw [ht]; simp only [IntKind.wrap_i64]; unfold loOf; omega
  have HO := Lib.hid (And.intro hx (And.intro o0 (And.intro t0 (And.intro t1 t2))))
  have k1 : IntKind.i64.wrap (loOf s) = t := ht.symm
  clear hx o0 ht t0 t1 t2
  by_cases hfit : -9223372036854775808 ≤ s ∧ s ≤ 9223372036854775807
  · obtain rfl := HO.out.2.2.2.2 hfit
    have HH := Lib.hid hfit
    clear hfit
    go_enter Try.func28, Try.ntmps28
    go_wp2_with fail
    rw [← HO.out.1]
    have hS : (Own w [(x, 25, #[.int .i64 (hiOf t), .int .u64 (loOf t)])]) (_) := HO.out.2.1
    refine reg_start (Own w [(x, 25, #[.int .i64 (hiOf t), .int .u64 (loOf t)])]) (by kernel_rfl) hS ?_
    refine reg_take (i := 0) (v := ?_) rfl (by kernel_rfl) (by kernel_rfl) (by kernel_rfl) (fun _ _ _ h => h) (Or.inl ⟨by kernel_rfl, ?_⟩) hS ?_
    rotate_left
    · (intro w' hSw; have z0_0 := hSw.cell 0 0 rfl rfl; have z0_1 := hSw.cell 0 1 rfl rfl; go_simp <;> with_reducible rfl)
    try simp only [List.getElem_toArray, List.getElem_cons_succ, List.getElem_cons_zero, Act.put, List.setIfInBounds_toArray, List.set_cons_zero, List.set_cons_succ]
    refine reg_take (i := 1) (v := ?_) rfl (by kernel_rfl) (by kernel_rfl) (by kernel_rfl) (fun _ _ _ h => h) (Or.inl ⟨by kernel_rfl, ?_⟩) hS ?_
    rotate_left
    · (intro w' hSw; have z0_0 := hSw.cell 0 0 rfl rfl; have z0_1 := hSw.cell 0 1 rfl rfl; go_simp <;> with_reducible rfl)
    try simp only [List.getElem_toArray, List.getElem_cons_succ, List.getElem_cons_zero, Act.put, List.setIfInBounds_toArray, List.set_cons_zero, List.set_cons_succ]
    refine reg_take (i := 2) (v := ?_) rfl (by kernel_rfl) (by kernel_rfl) (by kernel_rfl) (fun _ _ _ h => h) (Or.inl ⟨by kernel_rfl, ?_⟩) hS ?_
    rotate_left
    · (intro w' hSw; have z0_0 := hSw.cell 0 0 rfl rfl; have z0_1 := hSw.cell 0 1 rfl rfl; go_simp <;> with_reducible rfl)
    try simp only [List.getElem_toArray, List.getElem_cons_succ, List.getElem_cons_zero, Act.put, List.setIfInBounds_toArray, List.set_cons_zero, List.set_cons_succ]
    refine reg_take (i := 3) (v := ?_) rfl (by kernel_rfl) (by kernel_rfl) (by kernel_rfl) (fun _ _ _ h => h) (Or.inl ⟨by kernel_rfl, ?_⟩) hS ?_
    rotate_left
    · (intro w' hSw; have z0_0 := hSw.cell 0 0 rfl rfl; have z0_1 := hSw.cell 0 1 rfl rfl; go_simp <;> with_reducible rfl)
    try simp only [List.getElem_toArray, List.getElem_cons_succ, List.getElem_cons_zero, Act.put, List.setIfInBounds_toArray, List.set_cons_zero, List.set_cons_succ]
    refine reg_call (i := 4) rfl (by kernel_rfl) (fun K hK => ?_)
    have HK := Lib.hid hK
    clear hK
    go_simp
    refine (wideOf_any t HO.out.2.2.1 _).mono ?_
    rintro e w6 ⟨rfl, h6⟩
    have H6 := Lib.hid (hS.call h6)
    clear h6
    go_wp2_with fail
    refine HK.out.to (Own w [(x, 25, #[.int .i64 (hiOf t), .int .u64 (loOf t)])]) (fun _ h => h) (H6.out) ?_
    clear HK hS
    have hS : (Own w [(x, 25, #[.int .i64 (hiOf t), .int .u64 (loOf t)])]) (w6) := H6.out
    try simp only [List.getElem_toArray, List.getElem_cons_succ, List.getElem_cons_zero, Act.put, List.setIfInBounds_toArray, List.set_cons_zero, List.set_cons_succ]
    refine reg_take (i := 5) (v := ?_) rfl (by kernel_rfl) (by kernel_rfl) (by kernel_rfl) (fun _ _ _ h => h) (Or.inl ⟨by kernel_rfl, ?_⟩) hS ?_
    rotate_left
    · (intro w' hSw; go_simp <;> with_reducible rfl)
    try simp only [List.getElem_toArray, List.getElem_cons_succ, List.getElem_cons_zero, Act.put, List.setIfInBounds_toArray, List.set_cons_zero, List.set_cons_succ]
    refine wpAnyH_done (by kernel_rfl) ?_ _
    try simp only [List.getElem_toArray, List.getElem_cons_succ, List.getElem_cons_zero]
    try simp only [List.getElem_toArray, List.getElem_cons_succ, List.getElem_cons_zero, Act.put, List.setIfInBounds_toArray, List.set_cons_zero, List.set_cons_succ]
    have z0_0 := hS.cell 0 0 rfl rfl; have z0_1 := hS.cell 0 1 rfl rfl
    have HP := Lib.hid hS
    clear hS
    go_wp2_with fail
    go_ret2
    exact ⟨ret_pair (by rw [if_pos HH.out]) (by simp [HH.out]), HP.out.bel⟩
  · have hne : hiOf s ≠ hiOf t := by
      intro h
      have := hilo_eq h HO.out.2.2.2.1.symm
      have h2 := HO.out.2.2.1
      rw [← this] at h2
      exact hfit h2
    have d1 : (hiOf s == hiOf t) = false := by simp [hne]
    have d2 : loOf t = loOf s := HO.out.2.2.2.1
    have HH := Lib.hid hfit
    clear hfit
    go_enter Try.func28, Try.ntmps28
    go_wp2_with fail
    rw [← HO.out.1]
    have hS : (Own w [(x, 25, #[.int .i64 (hiOf s), .int .u64 (loOf s)])]) (_) := HO.out.2.1
    refine reg_start (Own w [(x, 25, #[.int .i64 (hiOf s), .int .u64 (loOf s)])]) (by kernel_rfl) hS ?_
    refine reg_take (i := 0) (v := ?_) rfl (by kernel_rfl) (by kernel_rfl) (by kernel_rfl) (fun _ _ _ h => h) (Or.inl ⟨by kernel_rfl, ?_⟩) hS ?_
    rotate_left
    · (intro w' hSw; have z0_0 := hSw.cell 0 0 rfl rfl; have z0_1 := hSw.cell 0 1 rfl rfl; go_simp <;> with_reducible rfl)
    try simp only [List.getElem_toArray, List.getElem_cons_succ, List.getElem_cons_zero, Act.put, List.setIfInBounds_toArray, List.set_cons_zero, List.set_cons_succ]
    refine reg_take (i := 1) (v := ?_) rfl (by kernel_rfl) (by kernel_rfl) (by kernel_rfl) (fun _ _ _ h => h) (Or.inl ⟨by kernel_rfl, ?_⟩) hS ?_
    rotate_left
    · (intro w' hSw; have z0_0 := hSw.cell 0 0 rfl rfl; have z0_1 := hSw.cell 0 1 rfl rfl; go_simp <;> with_reducible rfl)
    try simp only [List.getElem_toArray, List.getElem_cons_succ, List.getElem_cons_zero, Act.put, List.setIfInBounds_toArray, List.set_cons_zero, List.set_cons_succ]
    refine reg_take (i := 2) (v := ?_) rfl (by kernel_rfl) (by kernel_rfl) (by kernel_rfl) (fun _ _ _ h => h) (Or.inl ⟨by kernel_rfl, ?_⟩) hS ?_
    rotate_left
    · (intro w' hSw; have z0_0 := hSw.cell 0 0 rfl rfl; have z0_1 := hSw.cell 0 1 rfl rfl; go_simp <;> with_reducible rfl)
    try simp only [List.getElem_toArray, List.getElem_cons_succ, List.getElem_cons_zero, Act.put, List.setIfInBounds_toArray, List.set_cons_zero, List.set_cons_succ]
    refine reg_take (i := 3) (v := ?_) rfl (by kernel_rfl) (by kernel_rfl) (by kernel_rfl) (fun _ _ _ h => h) (Or.inl ⟨by kernel_rfl, ?_⟩) hS ?_
    rotate_left
    · (intro w' hSw; have z0_0 := hSw.cell 0 0 rfl rfl; have z0_1 := hSw.cell 0 1 rfl rfl; go_simp <;> with_reducible rfl)
    try simp only [List.getElem_toArray, List.getElem_cons_succ, List.getElem_cons_zero, Act.put, List.setIfInBounds_toArray, List.set_cons_zero, List.set_cons_succ]
    refine reg_call (i := 4) rfl (by kernel_rfl) (fun K hK => ?_)
    have HK := Lib.hid hK
    clear hK
    go_simp
    refine (wideOf_any t HO.out.2.2.1 _).mono ?_
    rintro e w6 ⟨rfl, h6⟩
    have H6 := Lib.hid (hS.call h6)
    clear h6
    go_wp2_with fail
    refine HK.out.to (Own w [(x, 25, #[.int .i64 (hiOf s), .int .u64 (loOf s)])]) (fun _ h => h) (H6.out) ?_
    clear HK hS
    have hS : (Own w [(x, 25, #[.int .i64 (hiOf s), .int .u64 (loOf s)])]) (w6) := H6.out
    try simp only [List.getElem_toArray, List.getElem_cons_succ, List.getElem_cons_zero, Act.put, List.setIfInBounds_toArray, List.set_cons_zero, List.set_cons_succ]
    refine reg_take (i := 5) (v := ?_) rfl (by kernel_rfl) (by kernel_rfl) (by kernel_rfl) (fun _ _ _ h => h) (Or.inl ⟨by kernel_rfl, ?_⟩) hS ?_
    rotate_left
    · (intro w' hSw; go_simp <;> with_reducible rfl)
    try simp only [List.getElem_toArray, List.getElem_cons_succ, List.getElem_cons_zero, Act.put, List.setIfInBounds_toArray, List.set_cons_zero, List.set_cons_succ]
    refine wpAnyH_done (by kernel_rfl) ?_ _
    try simp only [List.getElem_toArray, List.getElem_cons_succ, List.getElem_cons_zero]
    try simp only [List.getElem_toArray, List.getElem_cons_succ, List.getElem_cons_zero, Act.put, List.setIfInBounds_toArray, List.set_cons_zero, List.set_cons_succ]
    have HP := Lib.hid hS
    clear hS
    go_wp2_with fail
    go_ret2
    exact ⟨ret_pair (by rw [if_neg HH.out]) (by simp [HH.out]), HP.out.bel⟩
/-- What Mean tells. -/
def meanA (a : Ag) : Int × Bool :=
  if a.n ≤ 0 then (0, false) else (if -9223372036854775808 ≤ a.s / a.n ∧ a.s / a.n ≤ 9223372036854775807 then a.s / a.n else 0, decide (-9223372036854775808 ≤ a.s / a.n ∧ a.s / a.n ≤ 9223372036854775807))
def MeanPost (a : Ag) (w : World) (e : Ending) (w' : World) : Prop := e = .returned (.tuple #[.int .i64 (meanA a).1, .bool (meanA a).2]) ∧ Below w.heap.size w w'
theorem quo_s {s n : Int} (hs : S128 s) (hn : 0 < n) : S128 (s / n) := by
  have d1 := Int.mul_ediv_add_emod s n
  have d2 := Int.emod_nonneg s (b := n) (by omega)
  have d3 := Int.emod_lt_of_pos s hn
  unfold S128 at *
  rcases Int.lt_or_le (s / n) 0 with h | h
  · have h1 : -(s / n) - 1 ≤ n * (-(s / n) - 1) := by
      have := Int.mul_le_mul_of_nonneg_right (show (1 : Int) ≤ n by omega) (show 0 ≤ -(s / n) - 1 by omega)
      omega
    rw [Int.mul_sub, Int.mul_neg] at h1
    omega
  · have h1 : s / n ≤ n * (s / n) := by
      have := Int.mul_le_mul_of_nonneg_right (show (1 : Int) ≤ n by omega) h
      omega
    omega
set_option maxRecDepth 100000 in
set_option maxHeartbeats 4000000 in
theorem mean_any (a : Ag) (ha : AgOk a) (w : World) : Calls Try.prog 14 #[.agg #[.int .i64 a.n, .int .i64 (hiOf a.s), .int .u64 (loOf a.s), .int .i64 a.lo, .int .i64 a.hi, .int .i64 a.f.t, .int .i64 a.f.v, .int .i64 a.f.s, .int .i64 a.l.t, .int .i64 a.l.v, .int .i64 a.l.s]] w (MeanPost a w) := by
  obtain ⟨x, hx⟩ : ∃ x, x = w.heap.size := ⟨_, rfl⟩
  have o0 := Own.own1 w hx 29 #[.int .i64 a.n, .int .i64 (hiOf a.s), .int .u64 (loOf a.s), .int .i64 a.lo, .int .i64 a.hi, .int .i64 a.f.t, .int .i64 a.f.v, .int .i64 a.f.s, .int .i64 a.l.t, .int .i64 a.l.v, .int .i64 a.l.s]
  have HO := Lib.hid (And.intro hx (And.intro o0 ha))
  clear hx o0 ha
  go_enter Try.func14, Try.ntmps14
  go_wp2_with fail
  by_cases hn : a.n ≤ 0
  · have HM := Lib.hid (show meanA a = (0, false) by unfold meanA; rw [if_pos hn])
    refine (wdiv_zero a.s a.n hn _).mono ?_
    rintro e w1 ⟨rfl, hb⟩
    obtain ⟨y, hy⟩ : ∃ y, y = w1.heap.size := ⟨_, rfl⟩
    have hS := (HO.out.2.1.call hb).alloc hy 25 #[.int .i64 0, .int .u64 0]
    have HY := Lib.hid (And.intro hy hS)
    clear hy hS hb
    go_wp2_with fail
    go_ret2
    exact ⟨ret_pair (by rw [HM.out]) (by rw [HM.out]), HY.out.2.bel⟩
  · have hq := quo_s HO.out.2.2.2.1 (show 0 < a.n by omega)
    have HM := Lib.hid (show meanA a = _ by unfold meanA; rw [if_neg hn])
    refine (wdiv_any a.s a.n HO.out.2.2.2.1 (by omega) (by have := HO.out.2.2.1; unfold I64 at this; omega) _).mono ?_
    rintro e w1 ⟨rfl, hb⟩
    obtain ⟨y, hy⟩ : ∃ y, y = w1.heap.size := ⟨_, rfl⟩
    obtain ⟨q, hqq⟩ : ∃ q, q = a.s / a.n := ⟨_, rfl⟩
    rw [← hqq] at hq HM
    have hS := (HO.out.2.1.call hb).alloc hy 25 #[.int .i64 (hiOf q), .int .u64 (loOf q)]
    have HY := Lib.hid (And.intro hy (And.intro hS hq))
    rw [← hqq]
    clear hy hS hb hq hqq hn
    go_upto_region 2 with (fail)
    rw [← HY.out.1]
    refine wp_gen (Own w [(x, 29, #[.int .i64 a.n, .int .i64 (hiOf a.s), .int .u64 (loOf a.s), .int .i64 a.lo, .int .i64 a.hi, .int .i64 a.f.t, .int .i64 a.f.v, .int .i64 a.f.s, .int .i64 a.l.t, .int .i64 a.l.v, .int .i64 a.l.s]), (y, 25, #[.int .i64 (hiOf q), .int .u64 (loOf q)])]) HY.out.2.1 ?_
    intro w2 hS
    have z0_0 := hS.cell 0 0 rfl rfl; have z0_1 := hS.cell 0 1 rfl rfl; have z0_2 := hS.cell 0 2 rfl rfl; have z0_3 := hS.cell 0 3 rfl rfl; have z0_4 := hS.cell 0 4 rfl rfl; have z0_5 := hS.cell 0 5 rfl rfl; have z0_6 := hS.cell 0 6 rfl rfl; have z0_7 := hS.cell 0 7 rfl rfl; have z0_8 := hS.cell 0 8 rfl rfl; have z0_9 := hS.cell 0 9 rfl rfl; have z0_10 := hS.cell 0 10 rfl rfl; have z1_0 := hS.cell 1 0 rfl rfl; have z1_1 := hS.cell 1 1 rfl rfl
    have HS := Lib.hid hS
    clear hS
    go_wp2_with fail
    refine (int_any q HY.out.2.2 _).mono ?_
    rintro e w3 ⟨rfl, hb⟩
    have HP := Lib.hid (HS.out.call hb)
    clear hb
    obtain ⟨v, hv⟩ : ∃ v, v = if -9223372036854775808 ≤ q ∧ q ≤ 9223372036854775807 then q else 0 := ⟨_, rfl⟩
    obtain ⟨b, hb⟩ : ∃ b, b = decide (-9223372036854775808 ≤ q ∧ q ≤ 9223372036854775807) := ⟨_, rfl⟩
    rw [← hv, ← hb]
    have HV := Lib.hid (And.intro hv hb)
    clear hv hb
    go_wp2_with fail
    go_ret2
    exact ⟨ret_pair (by rw [HM.out, HV.out.1]) (by rw [HM.out, HV.out.2]), HP.out.bel⟩
end Go.Proofs.Ythhgnngpaagagaa
