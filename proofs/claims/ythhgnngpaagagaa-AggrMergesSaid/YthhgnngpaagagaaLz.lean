/-
  The shelf's contract of bits.LeadingZeros64 at this dump, in plain words (written by the kit's lay-shelf.mjs and lay-plain.mjs, turned into a template).
-/
import Derived.Shelf.Small.Bits
import Derived.Test.YthhgnngpaagagaaProg
namespace Go.Proofs.Ythhgnngpaagagaa
open Go.Shelf
def lays134_ren : Go.Shelf.Ren := ⟨fun | 134 => 47 | 129 => 48 | n => n, fun | 53 => 23 | 3 => 3 | 4 => 4 | 46 => 72 | 5 => 5 | 9 => 9 | n => n, fun | n => n⟩
theorem lays134 : Go.Proofs.Lays.n134 Try.prog lays134_ren := {
  mixed := by kernel_rfl
  f129 := Try.func48.trans (congrArg some (by kernel_rfl))
  f134 := Try.func47.trans (congrArg some (by kernel_rfl))
  t3 := Try.underlying3
  a3 := Try.isAgg3
  z3 := Try.sizeOf3
  v3 := Try.zeroValue3
  t4 := Try.underlying4
  a4 := Try.isAgg4
  z4 := Try.sizeOf4
  v4 := Try.zeroValue4
  t5 := Try.underlying5
  a5 := Try.isAgg5
  z5 := Try.sizeOf5
  v5 := Try.zeroValue5
  t9 := Try.underlying9
  a9 := Try.isAgg9
  z9 := Try.sizeOf9
  v9 := Try.zeroValue9
  t46 := Try.underlying72
  a46 := Try.isAgg72
  z46 := Try.sizeOf72
  v46 := Try.zeroValue72
  t53 := Try.underlying23
  a53 := Try.isAgg23
  z53 := Try.sizeOf23
  v53 := Try.zeroValue23 }
theorem leadingZeros64 (x : Int) (w : World) (h0 : 0 ≤ x) (h1 : x ≤ 18446744073709551615) :
    Calls Try.prog 47 #[.int .u64 x] w fun e w' => e = .returned (.int .i64 (64 - (Lib.bitLen x.toNat : Int))) ∧ w' = w := Any.bits_LeadingZeros64 lays134 x w h0 h1
theorem bitLen_bd : ∀ (f x : Nat), x < 2 ^ f → 0 < x → 0 < Lib.bitLenAux f x ∧ Lib.bitLenAux f x ≤ f ∧ 2 ^ (Lib.bitLenAux f x - 1) ≤ x ∧ x < 2 ^ Lib.bitLenAux f x
  | 0, x, h, h0 => by simp at h; omega
  | f + 1, x, h, h0 => by
    unfold Lib.bitLenAux
    rw [if_neg (by omega)]
    by_cases hx : x / 2 = 0
    · have e : Lib.bitLenAux f (x / 2) = 0 := by rw [hx]; cases f <;> simp [Lib.bitLenAux]
      rw [e]
      have : x = 1 := by omega
      subst this
      simp
    · obtain ⟨h1, h2, h3, h4⟩ := bitLen_bd f (x / 2) (by rw [Nat.pow_succ] at h; omega) (by omega)
      generalize Lib.bitLenAux f (x / 2) = L at *
      obtain ⟨M, rfl⟩ : ∃ M, L = M + 1 := ⟨L - 1, by omega⟩
      rw [Nat.add_sub_cancel] at h3
      rw [show 1 + (M + 1) - 1 = M + 1 by omega, show 1 + (M + 1) = M + 1 + 1 by omega]
      have e1 : 2 ^ (M + 1) = 2 * 2 ^ M := by rw [Nat.pow_succ]; omega
      have e2 : 2 ^ (M + 1 + 1) = 2 * 2 ^ (M + 1) := by rw [Nat.pow_succ 2 (M + 1)]; omega
      refine ⟨by omega, by omega, by omega, by omega⟩
end Go.Proofs.Ythhgnngpaagagaa
