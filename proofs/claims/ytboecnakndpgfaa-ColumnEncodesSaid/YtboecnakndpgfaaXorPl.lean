/-
  Plain facts on the bits 0 ahead and behind. No program.
-/
import Derived.Below
import Derived.Laws.BitsAllLaws
import Derived.Laws.BitsLemmas
namespace Go.Proofs.Ytboecnakndpgfaa.X
/-- How many of 64 bits are 0 ahead of the first bit 1. -/
def lead (u : Nat) : Nat := if u = 0 then 64 else 63 - Nat.log2 u
/-- How many of n bits are 0 behind the last bit 1. -/
def trailF : Nat → Nat → Nat
  | 0, _ => 0
  | n + 1, u => if u % 2 = 0 then trailF n (u / 2) + 1 else 0
def trail (u : Nat) : Nat := trailF 64 u
theorem lead_spec {u : Nat} (h0 : 0 < u) (h : u < 18446744073709551616) : lead u ≤ 63 ∧ 2 ^ (63 - lead u) ≤ u ∧ u < 2 ^ (64 - lead u) := by
  have hl : Nat.log2 u < 64 := (Nat.log2_lt (by omega)).2 h
  have hu : lead u = 63 - Nat.log2 u := by unfold lead; rw [if_neg (by omega)]
  rw [hu]
  refine ⟨by omega, ?_, ?_⟩
  · rw [show 63 - (63 - Nat.log2 u) = Nat.log2 u by omega]; exact Nat.log2_self_le (by omega)
  · rw [show 64 - (63 - Nat.log2 u) = Nat.log2 u + 1 by omega]; exact Nat.lt_log2_self
theorem lead_uniq {u n : Nat} (hn : n ≤ 63) (h1 : 2 ^ (63 - n) ≤ u) (h2 : u < 2 ^ (64 - n)) : lead u = n := by
  have hp : 0 < 2 ^ (63 - n) := Nat.two_pow_pos _
  have h3 : Nat.log2 u < 64 - n := (Nat.log2_lt (by omega)).2 h2
  have h4 : ¬ Nat.log2 u < 63 - n := fun h => by have := (Nat.log2_lt (by omega)).1 h; omega
  unfold lead; rw [if_neg (by omega)]; omega
theorem lead_zero : lead 0 = 64 := rfl
theorem lead_pow {t : Nat} (h : t ≤ 63) : lead (2 ^ t) = 63 - t := by
  refine lead_uniq (by omega) ?_ ?_
  · rw [show 63 - (63 - t) = t by omega]; exact Nat.le_refl _
  · exact Nat.pow_lt_pow_right (by omega) (by omega)
theorem trailF_zero (n : Nat) : trailF n 0 = n := by
  induction n with
  | zero => rfl
  | succ n ih => simp [trailF, ih]
theorem trail_zero : trail 0 = 64 := trailF_zero 64
theorem trailF_spec (n : Nat) : ∀ u, 0 < u → u < 2 ^ n → trailF n u < n ∧ ∃ m, u = 2 ^ trailF n u * (2 * m + 1) := by
  induction n with
  | zero => intro u h0 h; simp at h; omega
  | succ n ih =>
    intro u h0 h
    rw [Nat.pow_succ] at h
    by_cases hu : u % 2 = 0
    · obtain ⟨h1, m, hm⟩ := ih (u / 2) (by omega) (by omega)
      have ht : trailF (n + 1) u = trailF n (u / 2) + 1 := by simp [trailF, hu]
      rw [ht]
      refine ⟨by omega, m, ?_⟩
      rw [Nat.pow_succ, Nat.mul_comm (2 ^ _) 2, Nat.mul_assoc, ← hm]; omega
    · have ht : trailF (n + 1) u = 0 := by simp [trailF, hu]
      rw [ht]
      exact ⟨by omega, u / 2, by omega⟩
theorem trail_spec {u : Nat} (h0 : 0 < u) (h : u < 18446744073709551616) : trail u ≤ 63 ∧ ∃ m, u = 2 ^ trail u * (2 * m + 1) := by
  obtain ⟨h1, h2⟩ := trailF_spec 64 u h0 h
  exact ⟨by unfold trail; omega, h2⟩
theorem odd_uniq (t : Nat) : ∀ s m k : Nat, 2 ^ t * (2 * m + 1) = 2 ^ s * (2 * k + 1) → t = s := by
  induction t with
  | zero =>
    intro s m k h
    cases s with
    | zero => rfl
    | succ s => rw [Nat.pow_succ, Nat.mul_comm (2 ^ s) 2, Nat.mul_assoc] at h; generalize 2 ^ s * (2 * k + 1) = z at h; simp at h; omega
  | succ t ih =>
    intro s m k h
    cases s with
    | zero => rw [Nat.pow_succ, Nat.mul_comm (2 ^ t) 2, Nat.mul_assoc] at h; generalize 2 ^ t * (2 * m + 1) = z at h; simp at h; omega
    | succ s =>
      rw [Nat.pow_succ, Nat.pow_succ, Nat.mul_comm (2 ^ s) 2, Nat.mul_comm (2 ^ t) 2, Nat.mul_assoc, Nat.mul_assoc] at h
      rw [ih s m k (by omega)]
theorem trail_uniq {u t m : Nat} (h : u < 18446744073709551616) (hm : u = 2 ^ t * (2 * m + 1)) : trail u = t := by
  have hp : 0 < 2 ^ t := Nat.two_pow_pos _
  have h0 : 0 < u := by rw [hm]; exact Nat.mul_pos hp (by omega)
  obtain ⟨_, k, hk⟩ := trail_spec h0 h
  exact odd_uniq _ _ k m (hk.symm.trans hm)
theorem window_le {u : Nat} (h0 : 0 < u) (h : u < 18446744073709551616) : lead u + trail u ≤ 63 := by
  obtain ⟨h1, h2, h3⟩ := lead_spec h0 h
  obtain ⟨h4, m, hm⟩ := trail_spec h0 h
  have h5 : 2 ^ trail u ≤ u := by
    calc 2 ^ trail u = 2 ^ trail u * 1 := by omega
      _ ≤ 2 ^ trail u * (2 * m + 1) := Nat.mul_le_mul_left _ (by omega)
      _ = u := hm.symm
  have h6 : trail u < 64 - lead u := (Nat.pow_lt_pow_iff_right (by omega : 1 < 2)).1 (Nat.lt_of_le_of_lt h5 h3)
  omega
theorem and_compl {n m : Nat} (h : m < 2 ^ n) : m &&& (2 ^ n - (m + 1)) = 0 := by
  apply Nat.eq_of_testBit_eq
  intro i
  rw [Nat.testBit_and, Nat.testBit_two_pow_sub_succ h, Nat.zero_testBit]
  cases Nat.testBit m i <;> simp
theorem odd_and (m k : Nat) : (2 * m + 1) &&& (2 * k + 1) = 2 * (m &&& k) + 1 := by
  apply Nat.eq_of_testBit_eq
  intro i
  cases i with
  | zero => simp [Nat.testBit_zero]
  | succ i => rw [Nat.testBit_and, Nat.testBit_succ, Nat.testBit_succ, Nat.testBit_succ, show (2 * m + 1) / 2 = m by omega, show (2 * k + 1) / 2 = k by omega, show (2 * (m &&& k) + 1) / 2 = m &&& k by omega, Nat.testBit_and]
/-- The lowest bit 1. -/
theorem low_bit {u : Nat} (h0 : 0 < u) (h : u < 18446744073709551616) : u &&& (18446744073709551616 - u) = 2 ^ trail u := by
  obtain ⟨h4, m, hm⟩ := trail_spec h0 h
  generalize trail u = t at h4 hm
  have hp : 0 < 2 ^ t := Nat.two_pow_pos _
  have h64 : 18446744073709551616 = 2 ^ t * (2 * 2 ^ (63 - t)) := by
    rw [show 2 * 2 ^ (63 - t) = 2 ^ (64 - t) by rw [← Nat.pow_succ']; congr 1; omega, ← Nat.pow_add, show t + (64 - t) = 64 by omega]
  have hm' : m < 2 ^ (63 - t) := by
    have h7 : 2 ^ t * (2 * m + 1) < 2 ^ t * (2 * 2 ^ (63 - t)) := by rw [← h64, ← hm]; exact h
    have := Nat.lt_of_mul_lt_mul_left h7
    omega
  have hk : 18446744073709551616 - u = 2 ^ t * (2 * (2 ^ (63 - t) - (m + 1)) + 1) := by
    rw [h64, hm, ← Nat.mul_sub]; congr 1; omega
  rw [hk, hm, Nat.mul_comm (2 ^ t), Nat.mul_comm (2 ^ t), ← Nat.shiftLeft_eq, ← Nat.shiftLeft_eq, ← Nat.shiftLeft_and_distrib, odd_and, and_compl hm', Nat.shiftLeft_eq]
  omega
end Go.Proofs.Ytboecnakndpgfaa.X
