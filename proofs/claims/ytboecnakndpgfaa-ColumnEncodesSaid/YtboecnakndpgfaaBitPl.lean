/-
  Plain facts on bits and bytes: no program.
-/
import Derived.Below
import Derived.Laws.BitsAllLaws
import Derived.Laws.BitsLemmas
namespace Go.Proofs.Ytboecnakndpgfaa
/-- Bit i of bytes, of each the highest first. -/
def bitOf (bs : List Nat) (i : Nat) : Nat := bs.getD (i / 8) 0 / 2 ^ (7 - i % 8) % 2
/-- n bits from the bit a on, as a number. -/
def gets (bs : List Nat) (a : Nat) : Nat → Nat
  | 0 => 0
  | n + 1 => 2 * gets bs a n + bitOf bs (a + n)
theorem bitOf_lt (bs : List Nat) (i : Nat) : bitOf bs i < 2 := Nat.mod_lt _ (by omega)
theorem gets_lt (bs : List Nat) (a n : Nat) : gets bs a n < 2 ^ n := by
  induction n with
  | zero => simp [gets]
  | succ n ih => have := bitOf_lt bs (a + n); rw [gets, Nat.pow_succ]; omega
/-- What Get answers: the number, its error, how many bits are taken. -/
def getV (bs : List Nat) (a en : Nat) (n : Int) : Nat := if 0 ≤ n ∧ n ≤ 64 ∧ n ≤ (en : Int) - a then gets bs a n.toNat else 0
def getE (a en : Nat) (n : Int) : Int := if 0 ≤ n ∧ n ≤ 64 then (if n ≤ (en : Int) - a then 0 else 10) else 2
def getN (a en : Nat) (n : Int) : Nat := if 0 ≤ n ∧ n ≤ 64 ∧ n ≤ (en : Int) - a then n.toNat else 0
theorem getN_le (a en : Nat) (n : Int) (h : a ≤ en) : a + getN a en n ≤ en := by unfold getN; split <;> omega
theorem two_or (g b : Nat) (hb : b < 2) : g * 2 ||| b = 2 * g + b := by
  have h := Nat.shiftLeft_add_eq_or_of_lt (i := 1) (b := b) (by omega) g
  rw [Nat.shiftLeft_eq] at h
  rw [show g * 2 = g * 2 ^ 1 from by omega, ← h]
  omega
theorem pow_cast (s : Nat) : ((2 : Int) ^ s) = ((2 ^ s : Nat) : Int) := by simp
theorem div_cast (x s : Nat) : (x : Int) / 2 ^ s = ((x / 2 ^ s : Nat) : Int) := by rw [pow_cast]; rfl
theorem and_one_u8 (x s : Nat) (hx : x < 256) : bits .and .u8 ((x : Int) / 2 ^ s) 1 = ((x / 2 ^ s % 2 : Nat) : Int) := by
  have h1 : x / 2 ^ s < 256 := Nat.lt_of_le_of_lt (Nat.div_le_self _ _) hx
  rw [div_cast, show (1 : Int) = ((1 : Nat) : Int) from rfl, u8_and_nat _ _ h1 (by omega), Nat.and_one_is_mod]
theorem get_step (g x s : Nat) (hg : g < 9223372036854775808) (hx : x < 256) :
    bits .or .u64 (IntKind.u64.wrap ((g : Int) * 2)) (IntKind.u64.wrap (bits .and .u8 ((x : Int) / 2 ^ s) 1)) = ((2 * g + x / 2 ^ s % 2 : Nat) : Int) := by
  rw [and_one_u8 x s hx, IntKind.wrap_u64, IntKind.wrap_u64]
  have h2 : x / 2 ^ s % 2 < 2 := Nat.mod_lt _ (by omega)
  generalize x / 2 ^ s % 2 = b at h2 ⊢
  rw [show (g : Int) * 2 % 18446744073709551616 = ((g * 2 : Nat) : Int) from by omega, show (b : Int) % 18446744073709551616 = (b : Int) from by omega,
    u64_or_nat _ _ (by omega) (by omega), two_or g b h2]
theorem rget_step (g x s : Nat) (hg : g < 9223372036854775808) (hx : x < 256) :
    IntKind.u64.wrap (IntKind.u64.wrap ((g : Int) * 2) + IntKind.u64.wrap (bits .and .u8 ((x : Int) / 2 ^ s) 1)) = ((2 * g + x / 2 ^ s % 2 : Nat) : Int) := by
  rw [and_one_u8 x s hx, IntKind.wrap_u64, IntKind.wrap_u64, IntKind.wrap_u64]
  have h2 : x / 2 ^ s % 2 < 2 := Nat.mod_lt _ (by omega)
  generalize x / 2 ^ s % 2 = b at h2 ⊢
  omega
end Go.Proofs.Ytboecnakndpgfaa
