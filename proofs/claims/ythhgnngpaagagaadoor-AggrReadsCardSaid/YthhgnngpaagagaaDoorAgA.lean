/-
  The small contracts under aggr: comparing, the wide sums.
-/
import Derived.Test.YthhgnngpaagagaaDoorMem
import Derived.Test.YthhgnngpaagagaaDoorRows
import Derived.WalkKit
import Derived.WalkSpells
import Derived.WalkLawsBesides
import Derived.Deep.QuietTactic
import Derived.BigQuiet
import Derived.Outline
import Derived.Lib.Hide
import Derived.Test.YthhgnngpaagagaaDoorArgs
import Derived.Test.YthhgnngpaagagaaDoorJoin
import Derived.Test.YthhgnngpaagagaaDoorOwn
import Derived.Laws.Externs
namespace Go.Proofs.YthhgnngpaagagaaDoor
open Go.RowKit
set_option linter.unusedVariables false
set_option linter.unusedSimpArgs false
theorem isNaN_any (x : Int) (w : World) : Calls Tryd.prog 55 #[.int .i64 x] w fun e w' => e = .returned (.bool false) ∧ w = w' := by
  go_enter Tryd.func55, Tryd.ntmps55
  go_wp2
  go_ret
  exact ⟨rfl, rfl⟩
def cmpI (x y : Int) : Int := if x < y then -1 else if y < x then 1 else 0
theorem compare_any (x y : Int) (w : World) : Calls Tryd.prog 39 #[.int .i64 x, .int .i64 y] w fun e w' => e = .returned (.int .i64 (cmpI x y)) ∧ w = w' := by
  have fin : (x < y → cmpI x y = -1) ∧ (¬ x < y → y < x → cmpI x y = 1) ∧ (¬ x < y → ¬ y < x → cmpI x y = 0) := by unfold cmpI; refine ⟨fun h => by rw [if_pos h], fun h h' => by rw [if_neg h, if_pos h'], fun h h' => by rw [if_neg h, if_neg h']⟩
  have FIN := Lib.hid fin
  clear fin
  go_enter Tryd.func39, Tryd.ntmps39
  go_wp2_with fail
  refine (isNaN_any _ _).mono ?_
  rintro e w1 ⟨rfl, rfl⟩
  go_wp2_with fail
  refine (isNaN_any _ _).mono ?_
  rintro e w1 ⟨rfl, rfl⟩
  by_cases h : x < y
  · go_wp2_with fail
    go_ret
    rw [FIN.out.1 h]
    exact ⟨rfl, rfl⟩
  · by_cases h2 : y < x
    · go_wp2_with fail
      go_ret
      rw [FIN.out.2.1 h h2]
      exact ⟨rfl, rfl⟩
    · go_wp2_with fail
      go_ret
      rw [FIN.out.2.2 h h2]
      exact ⟨rfl, rfl⟩
def orI (x y z : Int) : Int := if x ≠ 0 then x else if y ≠ 0 then y else z
set_option maxHeartbeats 800000 in
theorem or_any (x y z : Int) (b c : Nat) (w : World) (h0 : w.cell? ⟨b, 0, none⟩ = some (.int .i64 x)) (h1 : w.cell? ⟨b, 1, none⟩ = some (.int .i64 y)) (h2 : w.cell? ⟨b, 2, none⟩ = some (.int .i64 z)) :
    Calls Tryd.prog 38 #[.slice (some ⟨b, 0, none⟩) 3 c] w fun e w' => e = .returned (.int .i64 (orI x y z)) ∧ w = w' := by
  have fin : ∀ (u : Int), u = orI x y z → Ending.returned (.int .i64 u) = .returned (.int .i64 (orI x y z)) := fun u h => by rw [h]
  have FIN := Lib.hid fin
  clear fin
  go_enter Tryd.func38, Tryd.ntmps38
  go_wp2_with fail
  go_loopw [8] (fun i wr => wr = w ∧ ∃ k : Nat, k ≤ 3 ∧ i = .int .i64 k ∧ (0 < k → x = 0) ∧ (1 < k → y = 0) ∧ (2 < k → z = 0)) (fun i _ => 3 - (intOf i).toNat)
  case atStart => exact ⟨rfl, 0, by omega, rfl, by omega, by omega, by omega⟩
  case round =>
    obtain ⟨rfl, k, hk, rfl, k0, k1, k2⟩ := hrel
    rcases (show k = 0 ∨ k = 1 ∨ k = 2 ∨ k = 3 by omega) with rfl | rfl | rfl | rfl
    · by_cases hx : x = 0
      · subst hx
        go_wp2_with fail
        go_roundw
        case rel => exact ⟨trivial, 1, by omega, by go_num, by simp, by omega, by omega⟩
        case measure => simp [intOf]
      · have d : (x != 0) = true := by simp [hx]
        have e : orI x y z = x := by unfold orI; rw [if_pos hx]
        have HE := Lib.hid e
        clear e
        go_wp2_with fail
        go_ret
        rw [HE.out]
        exact ⟨rfl, rfl⟩
    · have hx := k0 (by omega)
      by_cases hy : y = 0
      · subst hy
        go_wp2_with fail
        go_roundw
        case rel => exact ⟨trivial, 2, by omega, by go_num, by simp [hx], by simp, by omega⟩
        case measure => simp [intOf]
      · have d : (y != 0) = true := by simp [hy]
        have HE := Lib.hid (show orI x y z = y by unfold orI; rw [if_neg (by simp [hx]), if_pos hy])
        go_wp2_with fail
        go_ret
        rw [HE.out]
        exact ⟨rfl, rfl⟩
    · have hx := k0 (by omega)
      have hy := k1 (by omega)
      by_cases hz : z = 0
      · subst hz
        go_wp2_with fail
        go_roundw
        case rel => exact ⟨trivial, 3, by omega, by go_num, by simp [hx], by simp [hy], by simp⟩
        case measure => simp [intOf]
      · have d : (z != 0) = true := by simp [hz]
        have HE := Lib.hid (show orI x y z = z by unfold orI; rw [if_neg (by simp [hx]), if_neg (by simp [hy])])
        go_wp2_with fail
        go_ret
        rw [HE.out]
        exact ⟨rfl, rfl⟩
    · have hx := k0 (by omega)
      have hy := k1 (by omega)
      have hz := k2 (by omega)
      clear k0 k1 k2
      have HE := Lib.hid (show orI x y z = 0 by unfold orI; rw [if_neg (by simp [hx]), if_neg (by simp [hy]), hz])
      go_wp2_with fail
      go_ret
      rw [HE.out]
      exact ⟨rfl, rfl⟩
theorem add64_any (x y c : Int) (hx : 0 ≤ x) (hy : 0 ≤ y) (hc0 : 0 ≤ c) (hc : c ≤ 1) (w : World) : (callFunc 42 #[.int .u64 x, .int .u64 y, .int .u64 c]).run Tryd.prog w =
    .ok (.value (.tuple #[.int .u64 ((x + y + c) % 18446744073709551616), .int .u64 ((x + y + c) / 18446744073709551616)])) w := by
  rw [run_callFunc_extern Tryd.func42 (by kernel_rfl) (by kernel_rfl) (by kernel_rfl) (e := add64Entry) (by kernel_rfl), run_add64 x y c hx hy hc0 hc]
  rfl
theorem add64_0 (x y : Int) (hx : 0 ≤ x) (hy : 0 ≤ y) (w : World) : (callFunc 42 #[.int .u64 x, .int .u64 y, .int .u64 0]).run Tryd.prog w =
    .ok (.value (.tuple #[.int .u64 ((x + y) % 18446744073709551616), .int .u64 ((x + y) / 18446744073709551616)])) w := by
  simpa using add64_any x y 0 hx hy (Int.le_refl 0) (by decide) w
/-- The two parts of a number of 128 bits. -/
def hiOf (s : Int) : Int := s / 18446744073709551616
def loOf (s : Int) : Int := s % 18446744073709551616
def sumV (s : Int) : Value := .agg #[.int .i64 (hiOf s), .int .u64 (loOf s)]
theorem loOf_nonneg (s : Int) : 0 ≤ loOf s := by unfold loOf; omega
theorem wideOf_any (n : Int) (hn : -9223372036854775808 ≤ n ∧ n ≤ 9223372036854775807) (w : World) : Calls Tryd.prog 22 #[.int .i64 n] w fun e w' => e = .returned (.agg #[.int .i64 (hiOf n), .int .u64 (loOf n)]) ∧ Below w.heap.size w w' := by
  have e1 : n / 9223372036854775808 = hiOf n := by unfold hiOf; omega
  have e2 : IntKind.u64.wrap n = loOf n := by unfold loOf; simp [IntKind.wrap, IntKind.signed, IntKind.bits]
  go_enter Tryd.func22, Tryd.ntmps22
  go_wp2
  exact bodyPost_ret (v := .agg #[.int .i64 (hiOf n), .int .u64 (loOf n)]) (by simp [results, Tryd.results22, go_sem]) rfl ⟨rfl, (Below.refl _ _).alloc (Nat.le_refl _) _⟩
theorem below_any (h l : Int) (w : World) : Calls Tryd.prog 44 #[.agg #[.int .i64 h, .int .u64 l]] w fun e w' => e = .returned (.bool (decide (h < 0))) ∧ Below w.heap.size w w' := by
  go_enter Tryd.func44, Tryd.ntmps44
  go_wp2
  go_ret
  exact ⟨rfl, (Below.refl _ _).alloc (Nat.le_refl _) _⟩
/-- Numbers of 128 bits. -/
def S128 (s : Int) : Prop := -170141183460469231731687303715884105728 ≤ s ∧ s < 170141183460469231731687303715884105728
theorem S128.hi {s : Int} (h : S128 s) : -9223372036854775808 ≤ hiOf s ∧ hiOf s ≤ 9223372036854775807 := by unfold S128 at h; unfold hiOf; omega
theorem loOf_lt (s : Int) : loOf s < 18446744073709551616 := by unfold loOf; omega
theorem hi_neg {s : Int} : hiOf s < 0 ↔ s < 0 := by unfold hiOf; omega
/-- A number modulo 2^128, from -2^127 on. -/
def wrp (x : Int) : Int := (x + 170141183460469231731687303715884105728) % 340282366920938463463374607431768211456 - 170141183460469231731687303715884105728
theorem wrp_s (x : Int) : S128 (wrp x) := by unfold S128 wrp; omega
theorem wrp_id {x : Int} (h : S128 x) : wrp x = x := by unfold S128 at h; unfold wrp; omega
theorem wrp_hi (x : Int) : hiOf (wrp x) = (hiOf x + 9223372036854775808) % 18446744073709551616 - 9223372036854775808 := by unfold wrp hiOf; omega
theorem wrp_lo (x : Int) : loOf (wrp x) = loOf x := by unfold wrp loOf; omega
theorem hilo (s : Int) : hiOf s * 18446744073709551616 + loOf s = s := by unfold hiOf loOf; omega
theorem hiOf_mk (h l : Int) (h0 : 0 ≤ l) (h1 : l < 18446744073709551616) : hiOf (h * 18446744073709551616 + l) = h := by unfold hiOf; omega
theorem loOf_mk (h l : Int) (h0 : 0 ≤ l) (h1 : l < 18446744073709551616) : loOf (h * 18446744073709551616 + l) = l := by unfold loOf; omega
set_option maxHeartbeats 800000 in
theorem plus_any (s t : Int) (w : World) : Calls Tryd.prog 61 #[.agg #[.int .i64 (hiOf s), .int .u64 (loOf s)], .agg #[.int .i64 (hiOf t), .int .u64 (loOf t)]] w fun e w' => e = .returned (.agg #[.int .i64 (hiOf (wrp (s + t))), .int .u64 (loOf (wrp (s + t)))]) ∧ Below w.heap.size w w' := by
  obtain ⟨u1, hu1⟩ : ∃ u1, IntKind.u64.wrap (hiOf s) = u1 := ⟨_, rfl⟩
  obtain ⟨u2, hu2⟩ : ∃ u2, IntKind.u64.wrap (hiOf t) = u2 := ⟨_, rfl⟩
  have a1 : u1 = hiOf s % 18446744073709551616 := by rw [← hu1]; simp [IntKind.wrap, IntKind.signed, IntKind.bits]
  have a2 : u2 = hiOf t % 18446744073709551616 := by rw [← hu2]; simp [IntKind.wrap, IntKind.signed, IntKind.bits]
  have p1 := loOf_nonneg s
  have p2 := loOf_nonneg t
  have p3 := loOf_lt s
  have p4 := loOf_lt t
  have k0 : 0 ≤ (loOf s + loOf t) / 18446744073709551616 := by omega
  have k1 : (loOf s + loOf t) / 18446744073709551616 ≤ 1 := by omega
  have q1 : 0 ≤ u1 := by omega
  have q2 : 0 ≤ u2 := by omega
  have hlo : (loOf s + loOf t) % 18446744073709551616 = loOf (wrp (s + t)) := by rw [wrp_lo]; unfold loOf; omega
  have hc : hiOf s + hiOf t + (loOf s + loOf t) / 18446744073709551616 = hiOf (s + t) := by unfold hiOf loOf; omega
  have hhi : IntKind.i64.wrap ((u1 + u2 + (loOf s + loOf t) / 18446744073709551616) % 18446744073709551616) = hiOf (wrp (s + t)) := by
    have e : (u1 + u2 + (loOf s + loOf t) / 18446744073709551616) % 18446744073709551616 = hiOf (s + t) % 18446744073709551616 := by
      rw [a1, a2, ← hc]; omega
    rw [e, wrp_hi]
    simp [IntKind.wrap, IntKind.signed, IntKind.bits]
    split <;> omega
  clear a1 a2 hc
  generalize hA : hiOf (wrp (s + t)) = A at *
  generalize hB : loOf (wrp (s + t)) = B at *
  generalize hC : hiOf s = C at *
  generalize hD : loOf s = D at *
  generalize hE : hiOf t = E at *
  generalize hF : loOf t = F at *
  clear hA hB hC hD hE hF
  go_enter Tryd.func61, Tryd.ntmps61
  go_wp2_with (first | simp only [add64_0 D F p1 p2] | simp only [add64_any u1 u2 _ q1 q2 k0 k1])
  exact bodyPost_ret (v := .agg #[.int .i64 A, .int .u64 B]) (by simp [results, Tryd.results61, go_sem]) rfl ⟨rfl, (((Below.refl _ _).alloc (Nat.le_refl _) _).alloc (by simp) _).alloc (by simp; omega) _⟩
end Go.Proofs.YthhgnngpaagagaaDoor
