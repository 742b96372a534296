/-
  The contracts of bits.Mul64, wide's signed, Times. (Printed by mk.py.)
-/
import Derived.Test.YthhgnngpaagagaaDoorAgI
import Derived.Test.YthhgnngpaagagaaDoorMask
namespace Go.Proofs.YthhgnngpaagagaaDoor
open Go.RowKit
set_option linter.unusedVariables false
set_option linter.unusedSimpArgs false
theorem and_u64_32 (x : Int) (h0 : 0 ≤ x) (h1 : x < 18446744073709551616) : bits .and .u64 x 4294967295 = x % 4294967296 := by
  show IntKind.u64.wrap ((BitVec.ofInt 64 x &&& BitVec.ofInt 64 4294967295).toNat : Int) = _
  have h2 : (BitVec.ofInt 64 4294967295).toNat = 2 ^ 32 - 1 := by decide
  rw [BitVec.toNat_and, h2, ofInt_mod64, Nat.and_two_pow_sub_one_eq_mod]
  simp [IntKind.wrap, IntKind.bits, IntKind.signed]
  omega
theorem wrap_u64 (x : Int) : IntKind.u64.wrap x = x % 18446744073709551616 := by simp [IntKind.wrap, IntKind.signed, IntKind.bits]
theorem wrap_u64_in {x : Int} (h0 : 0 ≤ x) (h1 : x < 18446744073709551616) : IntKind.u64.wrap x = x := by rw [wrap_u64]; omega
theorem mul_halves (a b c d : Int) : (4294967296 * a + b) * (4294967296 * c + d) = 18446744073709551616 * (a * c) + 4294967296 * (a * d) + 4294967296 * (b * c) + b * d := by grind
theorem mul_bd {a b : Int} (a0 : 0 ≤ a) (a1 : a ≤ 4294967295) (b0 : 0 ≤ b) (b1 : b ≤ 4294967295) : 0 ≤ a * b ∧ a * b ≤ 18446744065119617025 :=
  ⟨Int.mul_nonneg a0 b0, Int.mul_le_mul a1 b1 b0 (by omega)⟩
theorem mul_hi (x y : Int) (hx : 0 ≤ x) (hx' : x < 18446744073709551616) (hy : 0 ≤ y) (hy' : y < 18446744073709551616) :
    IntKind.u64.wrap (IntKind.u64.wrap (IntKind.u64.wrap (x / 4294967296 * (y / 4294967296)) + IntKind.u64.wrap (IntKind.u64.wrap (x / 4294967296 * (y % 4294967296)) + IntKind.u64.wrap (x % 4294967296 * (y % 4294967296)) / 4294967296) / 4294967296) +
      IntKind.u64.wrap (bits BinOp.and IntKind.u64 (IntKind.u64.wrap (IntKind.u64.wrap (x / 4294967296 * (y % 4294967296)) + IntKind.u64.wrap (x % 4294967296 * (y % 4294967296)) / 4294967296)) 4294967295 + IntKind.u64.wrap (x % 4294967296 * (y / 4294967296))) / 4294967296) = hiOf (x * y) := by
  have e : x * y = 18446744073709551616 * (x / 4294967296 * (y / 4294967296)) + 4294967296 * (x / 4294967296 * (y % 4294967296)) + 4294967296 * (x % 4294967296 * (y / 4294967296)) + x % 4294967296 * (y % 4294967296) := by
    rw [← mul_halves, show 4294967296 * (x / 4294967296) + x % 4294967296 = x by omega, show 4294967296 * (y / 4294967296) + y % 4294967296 = y by omega]
  have b1 := mul_bd (a := x / 4294967296) (b := y / 4294967296) (by omega) (by omega) (by omega) (by omega)
  have b2 := mul_bd (a := x / 4294967296) (b := y % 4294967296) (by omega) (by omega) (by omega) (by omega)
  have b3 := mul_bd (a := x % 4294967296) (b := y / 4294967296) (by omega) (by omega) (by omega) (by omega)
  have b4 := mul_bd (a := x % 4294967296) (b := y % 4294967296) (by omega) (by omega) (by omega) (by omega)
  rw [e]
  unfold hiOf
  generalize x / 4294967296 * (y / 4294967296) = p at *
  generalize x / 4294967296 * (y % 4294967296) = q at *
  generalize x % 4294967296 * (y / 4294967296) = r at *
  generalize x % 4294967296 * (y % 4294967296) = s at *
  rw [wrap_u64_in (x := p) (by omega) (by omega), wrap_u64_in (x := q) (by omega) (by omega), wrap_u64_in (x := r) (by omega) (by omega), wrap_u64_in (x := s) (by omega) (by omega), wrap_u64_in (x := q + s / 4294967296) (by omega) (by omega),
    and_u64_32 _ (by omega) (by omega), wrap_u64_in (x := p + (q + s / 4294967296) / 4294967296) (by omega) (by omega), wrap_u64_in (x := (q + s / 4294967296) % 4294967296 + r) (by omega) (by omega), wrap_u64]
  omega
theorem mul_lo (x y : Int) : IntKind.u64.wrap (x * y) = loOf (x * y) := by rw [wrap_u64]; rfl
set_option maxHeartbeats 1000000 in
theorem mul64_any (x y : Int) (hx : 0 ≤ x) (hx' : x < 18446744073709551616) (hy : 0 ≤ y) (hy' : y < 18446744073709551616) (w : World) :
    Calls Tryd.prog 41 #[.int .u64 x, .int .u64 y] w fun e w' => e = .returned (.tuple #[.int .u64 (hiOf (x * y)), .int .u64 (loOf (x * y))]) ∧ w = w' := by
  have a1 := and_u64_32 x hx hx'
  have a2 := and_u64_32 y hy hy'
  have HM := Lib.hid (And.intro (mul_hi x y hx hx' hy hy') (mul_lo x y))
  go_enter Tryd.func41, Tryd.ntmps41
  go_wp2_with fail
  go_ret2
  refine ⟨?_, rfl⟩
  rw [← HM.out.1, ← HM.out.2]
  rfl
end Go.Proofs.YthhgnngpaagagaaDoor
