/-
  Masks of int. No program.
-/
import Derived.Below
import Derived.Laws.BitsAllLaws
import Derived.Laws.BitsLemmas
namespace Go.Proofs.YthhgnngpaagagaaDoor
theorem ofInt_mod64 (x : Int) : (BitVec.ofInt 64 x).toNat = (x % 18446744073709551616).toNat := by
  rw [BitVec.toNat_ofInt]; rfl
theorem and_mask_i64 (x : Int) (k : Nat) (hk : k ≤ 62) : bits .and .i64 x ((2 ^ k - 1 : Nat) : Int) = ((x % (2 ^ k : Nat)).toNat : Int) := by
  have h64 : (2 : Nat) ^ k ≤ 2 ^ 62 := Nat.pow_le_pow_right (by omega) hk
  have hp : 0 < 2 ^ k := Nat.two_pow_pos k
  show IntKind.i64.wrap ((BitVec.ofInt 64 x &&& BitVec.ofInt 64 ((2 ^ k - 1 : Nat) : Int)).toNat : Int) = _
  have h2 : (BitVec.ofInt 64 ((2 ^ k - 1 : Nat) : Int)).toNat = 2 ^ k - 1 := by
    rw [BitVec.ofInt_natCast, BitVec.toNat_ofNat]; exact Nat.mod_eq_of_lt (by omega)
  have h3 : (x % 18446744073709551616).toNat % 2 ^ k = (x % (2 ^ k : Nat)).toNat := by
    have hd : ((2 ^ k : Nat) : Int) ∣ 18446744073709551616 := by
      have : (18446744073709551616 : Int) = ((2 ^ k : Nat) : Int) * ((2 ^ (64 - k) : Nat) : Int) := by
        rw [← Int.natCast_mul, ← Nat.pow_add, show k + (64 - k) = 64 by omega]; rfl
      exact ⟨_, this⟩
    have h4 : x % 18446744073709551616 % ((2 ^ k : Nat) : Int) = x % ((2 ^ k : Nat) : Int) := Int.emod_emod_of_dvd x hd
    have h5 : 0 ≤ x % 18446744073709551616 := Int.emod_nonneg _ (by omega)
    obtain ⟨y, hy⟩ := Int.eq_ofNat_of_zero_le h5
    rw [hy] at h4 ⊢
    rw [← h4]
    rfl
  rw [BitVec.toNat_and, h2, ofInt_mod64, Nat.and_two_pow_sub_one_eq_mod, h3, IntKind.wrap_i64]
  have h6 : 0 ≤ x % ((2 ^ k : Nat) : Int) := Int.emod_nonneg _ (by omega)
  have h7 : x % ((2 ^ k : Nat) : Int) < ((2 ^ k : Nat) : Int) := Int.emod_lt_of_pos _ (by omega)
  omega
theorem and_255 (x : Int) : bits .and .i64 x 255 = ((x % 256).toNat : Int) := and_mask_i64 x 8 (by omega)
theorem and_4095 (x : Int) : bits .and .i64 x 4095 = ((x % 4096).toNat : Int) := and_mask_i64 x 12 (by omega)
theorem and_65535 (x : Int) : bits .and .i64 x 65535 = ((x % 65536).toNat : Int) := and_mask_i64 x 16 (by omega)
theorem and_1023 (x : Int) : bits .and .i64 x 1023 = ((x % 1024).toNat : Int) := and_mask_i64 x 10 (by omega)
theorem and_63' (x : Int) : bits .and .i64 x 63 = ((x % 64).toNat : Int) := and_mask_i64 x 6 (by omega)
theorem and_31' (x : Int) : bits .and .i64 x 31 = ((x % 32).toNat : Int) := and_mask_i64 x 5 (by omega)
end Go.Proofs.YthhgnngpaagagaaDoor
