/-
  The walk of the law DeltaSizes.
-/
import Derived.Test.YtboecnakndpgfaaDeltaE
import Derived.Test.YtboecnakndpgfaaBitsRw
namespace Go.Proofs.Ytboecnakndpgfaa.D
open Go.RowKit
set_option linter.unusedVariables false
set_option linter.unusedSimpArgs false
/-- A sum modulo 2^64. -/
def add64 (a b : Int) : Int := (a + b + 9223372036854775808) % 18446744073709551616 - 9223372036854775808
theorem add64_range (a b : Int) : -9223372036854775808 ≤ add64 a b ∧ add64 a b ≤ 9223372036854775807 := by unfold add64; omega
theorem sub_add (a s : Int) (h0 : -9223372036854775808 ≤ s) (h1 : s ≤ 9223372036854775807) : sub64 (add64 a s) a = s := by unfold sub64 add64; omega
theorem sub_zero64 (s : Int) (h0 : -9223372036854775808 ≤ s) (h1 : s ≤ 9223372036854775807) : sub64 s 0 = s := by unfold sub64; omega
theorem sub_self64 (s : Int) : sub64 s s = 0 := by unfold sub64; omega
theorem add_walk (a s : Int) (a0 : -9223372036854775808 ≤ a) (a1 : a ≤ 9223372036854775807) (h0 : -9223372036854775808 ≤ s) (h1 : s ≤ 9223372036854775807) : wrap64 (IntKind.u64.wrap (IntKind.u64.wrap a + IntKind.u64.wrap s)) = add64 a s := by
  unfold add64 wrap64
  simp only [IntKind.wrap_u64]
  omega
/-- Times of one step each. -/
def tick (a s : Int) : Nat → Int
  | 0 => a
  | k + 1 => add64 (tick a s k) s
theorem tick_range (a s : Int) (a0 : -9223372036854775808 ≤ a) (a1 : a ≤ 9223372036854775807) (k : Nat) : -9223372036854775808 ≤ tick a s k ∧ tick a s k ≤ 9223372036854775807 := by
  cases k with
  | zero => exact ⟨a0, a1⟩
  | succ k => exact add64_range _ _
theorem tick_len (a s : Int) (h0 : -9223372036854775808 ≤ s) (h1 : s ≤ 9223372036854775807) (n : Nat) : (encTo (tick a s) (n + 2)).length = 64 + (ah (cls (zig s)) + wd (cls (zig s))) + n := by
  induction n with
  | zero =>
    unfold encTo
    rw [List.length_append, dbits_length]
    have e : sub64 (sub64 (tick a s 1) (tick a s 0)) (st (tick a s) 1) = s := by
      show sub64 (sub64 (add64 (tick a s 0) s) (tick a s 0)) 0 = s
      rw [sub_add _ _ h0 h1, sub_zero64 s h0 h1]
    rw [e]
    show (bitsTo (u64 (tick a s 0)) 64 64).length + _ = _
    rw [bitsTo_length]
    omega
  | succ n ih =>
    have e : sub64 (sub64 (tick a s (n + 2)) (tick a s (n + 1))) (st (tick a s) (n + 2)) = 0 := by
      show sub64 (sub64 (add64 (tick a s (n + 1)) s) (tick a s (n + 1))) (sub64 (add64 (tick a s n) s) (tick a s n)) = 0
      rw [sub_add _ _ h0 h1, sub_add _ _ h0 h1, sub_self64]
    show (encTo (tick a s) (n + 2) ++ dbits (zig (sub64 (sub64 (tick a s (n + 2)) (tick a s (n + 1))) (st (tick a s) (n + 2))))).length = _
    rw [List.length_append, ih, e, dbits_length]
    have : ah (cls (zig 0)) + wd (cls (zig 0)) = 1 := by decide
    omega
theorem sl_of_row {w : World} {base c n : Nat} {A : Option Addr} {f : Nat → Int} (ho : w.ownsRow base 3 1 (.slice A n c) n ((List.range n).map fun j => Value.int .i64 (f j))) : Sl w (fun k => (Value.slice A n c).ownBlock = some k) A n (fun j => .int .i64 (f j)) := by
  refine Sl.of_own ho ?_
  intro j u hu
  rw [List.getElem?_map] at hu
  rcases Nat.lt_or_ge j n with hj | hj
  · rw [List.getElem?_range hj] at hu
    simpa using hu.symm
  · rw [List.getElem?_eq_none (by simpa using hj)] at hu
    cases hu
end Go.Proofs.Ytboecnakndpgfaa.D
