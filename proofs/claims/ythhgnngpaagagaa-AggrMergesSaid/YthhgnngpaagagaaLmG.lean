/-
  Division bit by bit, in limbs, plainly. No program.
-/
import Derived.Test.YthhgnngpaagagaaLmP
namespace Go.Proofs.Ythhgnngpaagagaa
open Go.RowKit
set_option linter.unusedVariables false
set_option linter.unusedSimpArgs false
theorem pow_limb (j : Nat) : (65536 : Nat) ^ j = 2 ^ (16 * j) := by rw [Nat.pow_mul]
theorem dv_nat (x : Nat) : ∀ j, dv (x : Int) j = ((x / 2 ^ (16 * j) : Nat) : Int)
  | 0 => by show (x : Int) = ((x / 2 ^ 0 : Nat) : Int); simp
  | j + 1 => by
    show dv (x : Int) j / 65536 = _
    rw [dv_nat x j, show 16 * (j + 1) = 16 * j + 16 by omega, Nat.pow_add, ← Nat.div_div_eq_div_mul]
    rfl
theorem lim_nat (x j : Nat) : lim (x : Int) j = ((x / 2 ^ (16 * j) % 65536 : Nat) : Int) := by
  unfold lim
  rw [dv_nat]
  rfl
theorem bit_eq (x i : Nat) : x / 2 ^ i % 2 = if x.testBit i then 1 else 0 := by
  rw [Nat.testBit_eq_decide_div_mod_eq]
  have : x / 2 ^ i % 2 < 2 := Nat.mod_lt _ (by omega)
  by_cases h : x / 2 ^ i % 2 = 1
  · simp [h]
  · simp [h]; omega
/-- Bit i of a number is bit i % 16 of its limb i / 16. -/
theorem bit_lim (x i : Nat) : x / 2 ^ (16 * (i / 16)) % 65536 / 2 ^ (i % 16) % 2 = x / 2 ^ i % 2 := by
  rw [bit_eq, bit_eq]
  have h : (x / 2 ^ (16 * (i / 16)) % 2 ^ 16).testBit (i % 16) = x.testBit i := by
    rw [Nat.testBit_mod_two_pow, Nat.testBit_div_two_pow, show i % 16 + 16 * (i / 16) = i by omega]
    simp
    omega
  rw [show (65536 : Nat) = 2 ^ 16 by rfl, h]
/-- Limb j of a quotient whose bits from m on are known. -/
def ql (d m j : Nat) : Nat := d / 2 ^ (16 * j) % 65536 / 2 ^ (m - 16 * j) * 2 ^ (m - 16 * j)
theorem ql_low {y m : Nat} (hy : y < 65536) (hm : 16 ≤ m) : y / 2 ^ m * 2 ^ m = 0 := by
  have : y / 2 ^ m = 0 := by
    rw [Nat.div_eq_zero_iff]
    right
    exact Nat.lt_of_lt_of_le (show y < 2 ^ 16 from hy) (Nat.pow_le_pow_right (show 0 < 2 by decide) hm)
  rw [this, Nat.zero_mul]
theorem ql_start (d j : Nat) (hj : j < 8) : ql d 128 j = 0 := ql_low (Nat.mod_lt _ (by omega)) (by omega)
theorem ql_end (d j : Nat) : ql d 0 j = d / 2 ^ (16 * j) % 65536 := by unfold ql; rw [Nat.zero_sub]; simp
theorem ql_same (d i j : Nat) (h : j ≠ i / 16) : ql d i j = ql d (i + 1) j := by
  unfold ql
  have hy : d / 2 ^ (16 * j) % 65536 < 65536 := Nat.mod_lt _ (by omega)
  rcases Nat.lt_or_ge j (i / 16) with h1 | h1
  · rw [ql_low hy (by omega), ql_low hy (by omega)]
  · rw [show i - 16 * j = 0 by omega, show i + 1 - 16 * j = 0 by omega]
theorem ql_step (d i : Nat) : ql d i (i / 16) = ql d (i + 1) (i / 16) + d / 2 ^ i % 2 * 2 ^ (i % 16) := by
  rw [← bit_lim d i]
  unfold ql
  rw [show i - 16 * (i / 16) = i % 16 by omega, show i + 1 - 16 * (i / 16) = i % 16 + 1 by omega]
  generalize d / 2 ^ (16 * (i / 16)) % 65536 = y
  rw [Nat.pow_succ, ← Nat.div_div_eq_div_mul]
  generalize y / 2 ^ (i % 16) = z
  generalize 2 ^ (i % 16) = p
  rw [← Nat.mul_assoc, Nat.mul_right_comm, ← Nat.add_mul]
  congr 1
  omega
/-- The rest and the quotient's bit, one bit more of the number. -/
theorem div_bit (x n i : Nat) (hn : 0 < n) : (x / 2 ^ i % n = if n ≤ x / 2 ^ (i + 1) % n * 2 + x / 2 ^ i % 2 then x / 2 ^ (i + 1) % n * 2 + x / 2 ^ i % 2 - n else x / 2 ^ (i + 1) % n * 2 + x / 2 ^ i % 2) ∧
    (x / n / 2 ^ i % 2 = if n ≤ x / 2 ^ (i + 1) % n * 2 + x / 2 ^ i % 2 then 1 else 0) := by
  have e : x / n / 2 ^ i = x / 2 ^ i / n := by rw [Nat.div_div_eq_div_mul, Nat.div_div_eq_div_mul, Nat.mul_comm]
  have e2 : x / 2 ^ (i + 1) = x / 2 ^ i / 2 := by rw [Nat.pow_succ, ← Nat.div_div_eq_div_mul]
  rw [e, e2]
  generalize x / 2 ^ i = y
  have h1 := Nat.div_add_mod (y / 2) n
  have h2 := Nat.mod_lt (y / 2) hn
  generalize y / 2 / n = q at h1
  generalize y / 2 % n = r at h1 h2 ⊢
  have hy : y = n * (2 * q) + (r * 2 + y % 2) := by
    have : n * (2 * q) = 2 * (n * q) := by rw [← Nat.mul_assoc, Nat.mul_comm n 2, Nat.mul_assoc]
    omega
  by_cases hc : n ≤ r * 2 + y % 2
  · rw [if_pos hc, if_pos hc]
    have hy2 : y = (r * 2 + y % 2 - n) + n * (2 * q + 1) := by rw [Nat.mul_add]; omega
    have hlt : r * 2 + y % 2 - n < n := by omega
    constructor
    · conv => lhs; rw [hy2]
      rw [Nat.add_mul_mod_self_left, Nat.mod_eq_of_lt hlt]
    · conv => lhs; rw [hy2]
      rw [Nat.add_mul_div_left _ _ hn, Nat.div_eq_of_lt hlt]
      omega
  · rw [if_neg hc, if_neg hc]
    have hy2 : y = (r * 2 + y % 2) + n * (2 * q) := by omega
    have hlt : r * 2 + y % 2 < n := by omega
    constructor
    · conv => lhs; rw [hy2]
      rw [Nat.add_mul_mod_self_left, Nat.mod_eq_of_lt hlt]
    · conv => lhs; rw [hy2]
      rw [Nat.add_mul_div_left _ _ hn, Nat.div_eq_of_lt hlt]
      omega
end Go.Proofs.Ythhgnngpaagagaa
