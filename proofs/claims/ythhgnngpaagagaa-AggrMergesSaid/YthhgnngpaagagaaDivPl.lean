/-
  A number of two words divided by one word, as bits.Div64 does it. No program.
-/
import Derived.Below
import Derived.Laws.BitsAllLaws
import Derived.Laws.BitsLemmas
namespace Go.Proofs.Ythhgnngpaagagaa
theorem mulD (q v1 v0 : Nat) : q * (v1 * 4294967296 + v0) = q * v1 * 4294967296 + q * v0 := by rw [Nat.mul_add, Nat.mul_assoc]
/-- One digit: q is too great. -/
theorem dig_great {u u1 v1 v0 q r : Nat} (hq : q * v1 + r = u) (h : 4294967296 * r + u1 < q * v0) (hD : 0 < v1 * 4294967296 + v0) : (u * 4294967296 + u1) / (v1 * 4294967296 + v0) < q := by
  rw [Nat.div_lt_iff_lt_mul hD, mulD, ← hq]
  generalize q * v1 = a at *
  generalize q * v0 = b at *
  omega
theorem dig_small {u u1 v1 v0 q r : Nat} (hq : q * v1 + r = u) (h : q * v0 ≤ 4294967296 * r + u1) (hD : 0 < v1 * 4294967296 + v0) : q ≤ (u * 4294967296 + u1) / (v1 * 4294967296 + v0) := by
  rw [Nat.le_div_iff_mul_le hD, mulD, ← hq]
  generalize q * v1 = a at *
  generalize q * v0 = b at *
  omega
theorem dig_lt {u u1 v1 v0 : Nat} (h : u < v1 * 4294967296 + v0) (h1 : u1 < 4294967296) : (u * 4294967296 + u1) / (v1 * 4294967296 + v0) < 4294967296 := by
  rw [Nat.div_lt_iff_lt_mul (by omega)]
  omega
/-- One digit: the rest has grown beyond a half word. -/
theorem dig_out {u u1 v1 v0 q r : Nat} (hq : q * v1 + r = u) (hu : u < v1 * 4294967296 + v0) (hv0 : v0 < 4294967296) (hr : 4294967296 ≤ r) : q ≤ (u * 4294967296 + u1) / (v1 * 4294967296 + v0) := by
  have h1 : q < 4294967296 := by
    apply Nat.lt_of_not_le
    intro h
    have := Nat.mul_le_mul_right v1 h
    generalize q * v1 = a at *
    omega
  refine dig_small hq ?_ (by omega)
  have : q * v0 ≤ 4294967295 * 4294967295 := Nat.mul_le_mul (by omega) (by omega)
  omega
theorem dig_first {u v1 v0 u1 : Nat} (hv1 : 0 < v1) (h1 : u1 < 4294967296) : (u * 4294967296 + u1) / (v1 * 4294967296 + v0) ≤ u / v1 := by
  rw [Nat.le_div_iff_mul_le hv1]
  have h2 : (u * 4294967296 + u1) / (v1 * 4294967296 + v0) * (v1 * 4294967296 + v0) ≤ u * 4294967296 + u1 := Nat.div_mul_le_self _ _
  rw [mulD] at h2
  generalize (u * 4294967296 + u1) / (v1 * 4294967296 + v0) * v1 = a at *
  generalize (u * 4294967296 + u1) / (v1 * 4294967296 + v0) * v0 = b at *
  omega
/-- The digits together. -/
theorem div_digits {N y s A u0 D q1 q0 u21 R : Nat} (hD : D = y * 2 ^ s) (hy : 0 < y) (hN : N * 2 ^ s = A * 4294967296 + u0)
    (e1 : q1 * D + u21 = A) (e2 : q0 * D + R = u21 * 4294967296 + u0) (hR : R < D) : q1 * 4294967296 + q0 = N / y ∧ R / 2 ^ s = N % y := by
  have hp : 0 < 2 ^ s := Nat.two_pow_pos s
  have e3 : N * 2 ^ s = (q1 * 4294967296 + q0) * D + R := by
    have h1 : q1 * 4294967296 * D = q1 * D * 4294967296 := by rw [Nat.mul_assoc, Nat.mul_comm 4294967296, ← Nat.mul_assoc]
    rw [hN, ← e1, Nat.add_mul, Nat.add_mul, h1]
    omega
  have e4 : (q1 * 4294967296 + q0) * D = (q1 * 4294967296 + q0) * y * 2 ^ s := by rw [hD, Nat.mul_assoc]
  obtain ⟨q, hq0⟩ : ∃ q, q = q1 * 4294967296 + q0 := ⟨_, rfl⟩
  rw [← hq0] at e3 e4 ⊢
  clear hq0 e1 e2 hN
  rw [e4] at e3
  have hle : q * y ≤ N := by
    have : q * y * 2 ^ s ≤ N * 2 ^ s := by omega
    exact Nat.le_of_mul_le_mul_right this hp
  have e5 : R = (N - q * y) * 2 ^ s := by rw [Nat.sub_mul]; omega
  have hlt : N - q * y < y := by
    have : (N - q * y) * 2 ^ s < y * 2 ^ s := by rw [← e5, ← hD]; exact hR
    exact Nat.lt_of_mul_lt_mul_right this
  have hN' : N = y * q + (N - q * y) := by rw [Nat.mul_comm y q]; omega
  have hq : N / y = q := by
    rw [hN', Nat.mul_add_div hy, Nat.div_eq_of_lt hlt, Nat.add_zero]
  have hr : N % y = N - q * y := by
    have h1 : (y * q + (N - q * y)) % y = N - q * y := by rw [Nat.mul_add_mod, Nat.mod_eq_of_lt hlt]
    rw [← hN'] at h1
    exact h1
  exact ⟨hq.symm, by rw [e5, Nat.mul_div_cancel _ hp, hr]⟩
theorem div_setup {h l y L s : Nat} (hs : s = 64 - L) (hh : h < y) (hl : l < 18446744073709551616) (hL : L ≤ 64) (hL0 : 0 < L) (h1 : 2 ^ (L - 1) ≤ y) (h2 : y < 2 ^ L) :
    y * 2 ^ s < 18446744073709551616 ∧ 9223372036854775808 ≤ y * 2 ^ s ∧ l / 2 ^ (64 - s) < 2 ^ s ∧ h * 2 ^ s + l / 2 ^ (64 - s) < y * 2 ^ s ∧
      (h * 18446744073709551616 + l) * 2 ^ s = (h * 2 ^ s + l / 2 ^ (64 - s)) * 18446744073709551616 + (l * 2 ^ s) % 18446744073709551616 := by
  have hp : 0 < 2 ^ s := Nat.two_pow_pos s
  have e64 : 2 ^ (64 - s) * 2 ^ s = 18446744073709551616 := by rw [← Nat.pow_add, show 64 - s + s = 64 by omega]
  have eL : 2 ^ L * 2 ^ s = 18446744073709551616 := by rw [← Nat.pow_add, show L + s = 64 by omega]
  have eL1 : 2 ^ (L - 1) * 2 ^ s = 9223372036854775808 := by rw [← Nat.pow_add, show L - 1 + s = 63 by omega]
  have a1 : y * 2 ^ s < 18446744073709551616 := by rw [← eL]; exact Nat.mul_lt_mul_of_pos_right h2 hp
  have a2 : 9223372036854775808 ≤ y * 2 ^ s := by rw [← eL1]; exact Nat.mul_le_mul_right _ h1
  have a3 : l / 2 ^ (64 - s) < 2 ^ s := by rw [Nat.div_lt_iff_lt_mul (Nat.two_pow_pos _), Nat.mul_comm, e64]; exact hl
  have a4 : h * 2 ^ s + 2 ^ s ≤ y * 2 ^ s := by rw [← Nat.succ_mul]; exact Nat.mul_le_mul_right _ hh
  have a5 : l * 2 ^ s / 18446744073709551616 = l / 2 ^ (64 - s) := by rw [← e64, Nat.mul_div_mul_right _ _ hp]
  have a6 := Nat.div_add_mod (l * 2 ^ s) 18446744073709551616
  rw [a5] at a6
  refine ⟨a1, a2, a3, by omega, ?_⟩
  rw [Nat.add_mul, Nat.add_mul, ← a6, show h * 18446744073709551616 * 2 ^ s = h * 2 ^ s * 18446744073709551616 by rw [Nat.mul_assoc, Nat.mul_comm 18446744073709551616, ← Nat.mul_assoc]]
  generalize h * 2 ^ s = a at *
  generalize l / 2 ^ (64 - s) = b at *
  omega
theorem or_add {h s b : Nat} (hb : b < 2 ^ s) : h * 2 ^ s ||| b = h * 2 ^ s + b := by
  rw [← Nat.shiftLeft_eq, Nat.shiftLeft_add_eq_or_of_lt hb]
theorem rest_eq {u u1 D Q : Nat} (hQ : Q = (u * 4294967296 + u1) / D) (hD : D < 18446744073709551616) (h0 : 0 < D) :
    IntKind.u64.wrap (IntKind.u64.wrap (IntKind.u64.wrap ((u : Int) * 4294967296) + (u1 : Int)) - IntKind.u64.wrap ((Q : Int) * (D : Int))) = (((u * 4294967296 + u1) % D : Nat) : Int) := by
  have h := Nat.div_add_mod (u * 4294967296 + u1) D
  rw [← hQ] at h
  have hl := Nat.mod_lt (u * 4294967296 + u1) h0
  generalize (u * 4294967296 + u1) % D = x at *
  rw [show (Q : Int) * (D : Int) = ((D * Q : Nat) : Int) by rw [Nat.mul_comm]; simp]
  generalize D * Q = p at *
  simp only [IntKind.wrap_u64]
  omega
end Go.Proofs.Ythhgnngpaagagaa
