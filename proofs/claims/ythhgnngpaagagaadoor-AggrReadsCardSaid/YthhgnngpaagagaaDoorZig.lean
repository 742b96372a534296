/-
  The contracts of word.Zig and tidemillref01.Zig.
-/
import Derived.Test.YthhgnngpaagagaaDoorRows
import Derived.Test.YthhgnngpaagagaaDoorArgs
import Derived.WalkKit
import Derived.WalkSpells
import Derived.WalkLawsBesides
import Derived.Outline
import Derived.Lib.Hide
import Derived.Lib.Zigzag
import Derived.Laws.BitsAllLaws
namespace Go.Proofs.YthhgnngpaagagaaDoor
open Go.RowKit
/-- 0, -1, 1, -2, .. as 0, 1, 2, 3, .. -/
def zig (n : Int) : Nat := if 0 ≤ n then (2 * n).toNat else (-2 * n - 1).toNat
theorem zig_lt {n : Int} (h0 : -9223372036854775808 ≤ n) (h1 : n ≤ 9223372036854775807) : zig n < 18446744073709551616 := by unfold zig; split <;> omega
theorem ret_u64 {a b : Int} (h : a = b) : Ending.returned (.int .u64 a) = .returned (.int .u64 b) := by rw [h]
theorem zig_pos (n : Int) (h0 : 0 ≤ n) (h1 : n ≤ 9223372036854775807) : bits .xor .u64 (IntKind.u64.wrap (IntKind.u64.wrap n * 2)) (IntKind.u64.wrap 0) = (zig n : Int) := by
  rw [IntKind.wrap_u64, IntKind.wrap_u64, IntKind.wrap_u64, show n % 18446744073709551616 * 2 % 18446744073709551616 = (((2 * n).toNat : Nat) : Int) from by omega, show (0 : Int) % 18446744073709551616 = ((0 : Nat) : Int) from by omega, u64_xor_nat _ _ (by omega) (by omega), Nat.xor_zero]
  unfold zig; rw [if_pos h0]
theorem zig_neg (n : Int) (h0 : n < 0) (h1 : -9223372036854775808 ≤ n) : bits .xor .u64 (IntKind.u64.wrap (IntKind.u64.wrap n * 2)) (IntKind.u64.wrap (-1)) = (zig n : Int) := by
  rw [IntKind.wrap_u64, IntKind.wrap_u64, IntKind.wrap_u64, show n % 18446744073709551616 * 2 % 18446744073709551616 = (((18446744073709551616 + 2 * n).toNat : Nat) : Int) from by omega, show (-1 : Int) % 18446744073709551616 = ((18446744073709551615 : Nat) : Int) from by omega, u64_xor_nat _ _ (by omega) (by omega), Nat.xor_comm]
  have := Lib.xor_ones64 (18446744073709551616 + 2 * n).toNat (by omega)
  rw [show (18446744073709551615 : Nat) = 2 ^ 64 - 1 from rfl, this]
  unfold zig; rw [if_neg (by omega)]
  omega
theorem zig_xor {n X Y : Int} (h0 : -9223372036854775808 ≤ n) (h1 : n ≤ 9223372036854775807) (hX : X = (n * 2) % 18446744073709551616) (hY : Y = if 0 ≤ n then 0 else 18446744073709551615) : bits .xor .u64 X Y = (zig n : Int) := by
  by_cases hn : 0 ≤ n
  · rw [if_pos hn] at hY
    rw [← zig_pos n hn h1, IntKind.wrap_u64, IntKind.wrap_u64, IntKind.wrap_u64, hX, hY]
    congr 1
    omega
  · rw [if_neg hn] at hY
    rw [← zig_neg n (by omega) h0, IntKind.wrap_u64, IntKind.wrap_u64, IntKind.wrap_u64, hX, hY]
    congr 1
    omega
set_option maxRecDepth 100000 in
set_option maxHeartbeats 400000 in
theorem zig_any (n : Int) (w : World) (h0 : -9223372036854775808 ≤ n) (h1 : n ≤ 9223372036854775807) :
    Calls Tryd.prog 48 #[.int .i64 n] w fun e w' => e = .returned (.int .u64 (zig n : Nat)) ∧ w = w' := by
  by_cases hn : 0 ≤ n
  · have e2 : n / 9223372036854775808 = 0 := by omega
    go_enter Tryd.func48, Tryd.ntmps48
    go_wp2
    go_ret
    refine ⟨ret_u64 (zig_xor h0 h1 ?_ ?_), rfl⟩
    · try simp only [IntKind.wrap_u64]
      omega
    · rw [if_pos hn]; try simp only [IntKind.wrap_u64]
      try omega
  · have e2 : n / 9223372036854775808 = -1 := by omega
    go_enter Tryd.func48, Tryd.ntmps48
    go_wp2
    go_ret
    refine ⟨ret_u64 (zig_xor h0 h1 ?_ ?_), rfl⟩
    · try simp only [IntKind.wrap_u64]
      omega
    · rw [if_neg (by omega)]; try simp only [IntKind.wrap_u64]
      try omega
set_option maxRecDepth 100000 in
set_option maxHeartbeats 400000 in
theorem rzig_any (n : Int) (w : World) (h0 : -9223372036854775808 ≤ n) (h1 : n ≤ 9223372036854775807) :
    Calls Tryd.prog 49 #[.int .i64 n] w fun e w' => e = .returned (.int .u64 (zig n : Nat)) ∧ w = w' := by
  by_cases hn : 0 ≤ n
  · go_enter Tryd.func49, Tryd.ntmps49
    go_wp2
    go_ret
    refine ⟨ret_u64 ?_, rfl⟩
    unfold zig
    rw [if_pos hn]
    try simp only [IntKind.wrap_u64]
    omega
  · go_enter Tryd.func49, Tryd.ntmps49
    go_wp2
    go_ret
    refine ⟨ret_u64 ?_, rfl⟩
    unfold zig
    rw [if_neg (by omega)]
    try simp only [IntKind.wrap_u64]
    omega
end Go.Proofs.YthhgnngpaagagaaDoor
