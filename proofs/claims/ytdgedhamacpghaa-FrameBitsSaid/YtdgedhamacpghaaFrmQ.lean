/-
  Plain facts on turned bits. No walk.
-/
import Derived.Test.YtdgedhamacpghaaFrmP
namespace Go.Proofs.Ytdgedhamacpghaa
def flipL (S : List Nat) (p b : Nat) : Nat → List Nat
  | 0 => S
  | i + 1 => if b / 2 ^ i % 2 = 1 then (flipL S p b i).set ((p + i) / 8) ((flipL S p b i).getD ((p + i) / 8) 0 ^^^ 2 ^ ((p + i) % 8)) else flipL S p b i
theorem flipL_length (S : List Nat) (p b i : Nat) : (flipL S p b i).length = S.length := by
  induction i with
  | zero => rfl
  | succ i ih => unfold flipL; split; rw [List.length_set, ih]; exact ih
theorem flipL_byte {S : List Nat} (hS : ∀ x ∈ S, x < 256) (p b i : Nat) : ∀ x ∈ flipL S p b i, x < 256 := by
  induction i with
  | zero => exact hS
  | succ i ih =>
    unfold flipL
    split
    · exact set_byte ih _ _ (Nat.mod_lt _ (by omega))
    · exact ih
theorem mod_pow_succ (b i : Nat) : b % 2 ^ (i + 1) = b % 2 ^ i + b / 2 ^ i % 2 * 2 ^ i := by
  rw [Nat.pow_succ, Nat.mod_mul, Nat.mul_comm (2 ^ i)]
theorem flipL_le {S : List Nat} (hS : ∀ x ∈ S, x < 256) (p b i : Nat) (h : p + i ≤ 8 * S.length) : le (flipL S p b i) = le S ^^^ b % 2 ^ i * 2 ^ p := by
  induction i with
  | zero => simp [flipL, Nat.mod_one]
  | succ i ih =>
    have ih := ih (by omega)
    unfold flipL
    have hm := mod_pow_succ b i
    by_cases hb : b / 2 ^ i % 2 = 1
    · rw [if_pos hb, le_set (flipL_byte hS p b i) _ _ (by rw [flipL_length]; omega) (Nat.mod_lt _ (by omega)), ih, show 8 * ((p + i) / 8) + (p + i) % 8 = p + i by omega, hm, hb, Nat.one_mul, Nat.xor_assoc]
      congr 1
      have hlt : b % 2 ^ i < 2 ^ i := Nat.mod_lt _ (Nat.two_pow_pos i)
      have e := join_xor i 1 _ hlt
      rw [Nat.mul_one] at e
      rw [Nat.add_comm (b % 2 ^ i) (2 ^ i), ← e]
      have d := Nat.shiftLeft_xor_distrib (a := 2 ^ i) (b := b % 2 ^ i) (i := p)
      simp only [Nat.shiftLeft_eq] at d
      rw [d, ← Nat.pow_add, Nat.add_comm i p]
      exact Nat.xor_comm _ _
    · rw [if_neg hb, ih, hm, show b / 2 ^ i % 2 = 0 by omega]
      simp
theorem flipL_same (S : List Nat) (p b i : Nat) (h : b % 2 ^ i = 0) : flipL S p b i = S := by
  induction i with
  | zero => rfl
  | succ i ih =>
    have hm := mod_pow_succ b i
    have hp := Nat.two_pow_pos i
    have hb : b / 2 ^ i % 2 = 0 := by
      rcases (show b / 2 ^ i % 2 = 0 ∨ b / 2 ^ i % 2 = 1 by omega) with h1 | h1
      · exact h1
      · rw [h1] at hm; omega
    rw [hb] at hm
    unfold flipL
    rw [if_neg (by omega)]
    exact ih (by omega)
theorem flip_open {S : List Nat} (hS : ∀ x ∈ S, x < 256) {p b i : Nat} (hi : i ≤ 32) (h : p + i ≤ 8 * S.length) (ho : openE S = 0) (hb : b % 2 ^ i ≠ 0) : openE (flipL S p b i) ≠ 0 := by
  intro hT
  have hlt : b % 2 ^ i < 4294967296 := by
    have h1 : b % 2 ^ i < 2 ^ i := Nat.mod_lt _ (Nat.two_pow_pos i)
    have h2 : (2 : Nat) ^ i ≤ 2 ^ 32 := Nat.pow_le_pow_right (by omega) hi
    omega
  exact hb (burst_open hS (flipL_byte hS p b i) (flipL_length S p b i).symm (flipL_le hS p b i h) hlt ho hT)
theorem chg_step (b i : Nat) : decide (b % 2 ^ (i + 1) ≠ 0) = if b / 2 ^ i % 2 = 1 then true else decide (b % 2 ^ i ≠ 0) := by
  have hm := mod_pow_succ b i
  have hp := Nat.two_pow_pos i
  by_cases h1 : b / 2 ^ i % 2 = 1
  · rw [if_pos h1]
    rw [h1] at hm
    simp
    omega
  · rw [if_neg h1, hm, show b / 2 ^ i % 2 = 0 by omega, Nat.zero_mul, Nat.add_zero]
end Go.Proofs.Ytdgedhamacpghaa
