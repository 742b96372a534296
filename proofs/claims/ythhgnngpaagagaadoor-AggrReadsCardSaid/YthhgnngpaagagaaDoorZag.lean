/-
  The contracts of word.Zag and tidemillref01.Zag.
-/
import Derived.Test.YthhgnngpaagagaaDoorZig
namespace Go.Proofs.YthhgnngpaagagaaDoor
open Go.RowKit
set_option linter.unusedVariables false
set_option linter.unusedSimpArgs false
/-- 0, 1, 2, 3, .. as 0, -1, 1, -2, .. -/
def zag (z : Nat) : Int := if z % 2 = 0 then (z / 2 : Nat) else -((z / 2 : Nat) : Int) - 1
theorem zag_range {z : Nat} (h : z < 18446744073709551616) : -9223372036854775808 ≤ zag z ∧ zag z ≤ 9223372036854775807 := by unfold zag; split <;> omega
theorem zag_zig (n : Int) : zag (zig n) = n := by unfold zag zig; split <;> split <;> omega
theorem zig_zag (z : Nat) : zig (zag z) = z := by unfold zag zig; split <;> split <;> omega
theorem ret_intz {k : IntKind} {a b : Int} (h : a = b) : Ending.returned (.int k a) = .returned (.int k b) := by rw [h]
theorem xor_i64_zero (x : Nat) (hx : x < 9223372036854775808) : bits .xor .i64 (x : Int) 0 = (x : Int) := by
  show IntKind.i64.wrap ((BitVec.ofInt 64 (x : Int) ^^^ BitVec.ofInt 64 0).toNat : Int) = _
  have h2 : (BitVec.ofInt 64 (x : Int)).toNat = x := by
    rw [BitVec.ofInt_natCast, BitVec.toNat_ofNat]; exact Nat.mod_eq_of_lt (by omega)
  have h1 : (BitVec.ofInt 64 0).toNat = 0 := by decide
  rw [BitVec.toNat_xor, h1, h2, Nat.xor_zero, IntKind.wrap_i64]
  omega
theorem xor_i64_ones (x : Nat) (hx : x < 9223372036854775808) : bits .xor .i64 (x : Int) (-1) = -(x : Int) - 1 := by
  rw [← Lib.i64_not x hx]
  show IntKind.i64.wrap ((BitVec.ofInt 64 (x : Int) ^^^ BitVec.ofInt 64 (-1)).toNat : Int) = IntKind.i64.wrap ((BitVec.ofInt 64 (-1) ^^^ BitVec.ofInt 64 (x : Int)).toNat : Int)
  rw [BitVec.xor_comm]
set_option maxRecDepth 100000 in
set_option maxHeartbeats 400000 in
theorem zag_any (z : Nat) (w : World) (hz : z < 18446744073709551616) :
    Calls Tryd.prog 54 #[.int .u64 (z : Nat)] w fun e w' => e = .returned (.int .i64 (zag z)) ∧ w = w' := by
  have e1 : bits .and .u64 (z : Int) 1 = ((z % 2 : Nat) : Int) := by rw [Lib.u64_and1 _ (by omega) (by omega)]; omega
  have e2 : wrap64 ((z : Int) / 2) = ((z / 2 : Nat) : Int) := by rw [show (z : Int) / 2 = ((z / 2 : Nat) : Int) by omega]; exact IntWalk.wrap64_in _ (by omega)
  have e2' : IntKind.i64.wrap ((z : Int) / 2) = ((z / 2 : Nat) : Int) := by rw [show (z : Int) / 2 = ((z / 2 : Nat) : Int) by omega]; exact IntWalk.i64_in _ (by omega)
  have HZ := Lib.hid hz
  clear hz
  rcases (show z % 2 = 0 ∨ z % 2 = 1 by omega) with h | h
  · have e3 : ((z % 2 : Nat) : Int) = 0 := by omega
    have e4 := xor_i64_zero (z / 2) (by have := HZ.out; omega)
    have HH := Lib.hid h
    rw [e3] at e1
    clear h e3
    go_enter Tryd.func54, Tryd.ntmps54
    go_wp2_with fail
    go_ret
    refine ⟨ret_intz ?_, rfl⟩
    unfold zag
    rw [if_pos HH.out]
    first
    | exact e4
    | (rw [e2]; exact e4)
    | (rw [e2']; exact e4)
    | skip
  · have e3 : ((z % 2 : Nat) : Int) = 1 := by omega
    have e4 := xor_i64_ones (z / 2) (by have := HZ.out; omega)
    have HH := Lib.hid h
    rw [e3] at e1
    clear h e3
    go_enter Tryd.func54, Tryd.ntmps54
    go_wp2_with fail
    go_ret
    refine ⟨ret_intz ?_, rfl⟩
    unfold zag
    rw [if_neg (by have := HH.out; omega)]
    first
    | exact e4
    | (rw [e2]; exact e4)
    | (rw [e2']; exact e4)
    | skip
set_option maxRecDepth 100000 in
set_option maxHeartbeats 400000 in
theorem rzag_any (z : Nat) (w : World) (hz : z < 18446744073709551616) :
    Calls Tryd.prog 37 #[.int .u64 (z : Nat)] w fun e w' => e = .returned (.int .i64 (zag z)) ∧ w = w' := by
  have HZ := Lib.hid hz
  clear hz
  rcases (show z % 2 = 0 ∨ z % 2 = 1 by omega) with h | h
  · have e1 : (z : Int).tmod 2 = 0 := by rw [Int.tmod_eq_emod_of_nonneg (by omega)]; omega
    have e2 : (z : Int).tdiv 2 = ((z / 2 : Nat) : Int) := by rw [Int.tdiv_eq_ediv_of_nonneg (by omega)]; omega
    have e3 : wrap64 ((z / 2 : Nat) : Int) = ((z / 2 : Nat) : Int) := IntWalk.wrap64_in _ (by have := HZ.out; omega)
    have HH := Lib.hid h
    clear h
    go_enter Tryd.func37, Tryd.ntmps37
    go_wp2_with fail
    go_ret
    refine ⟨ret_intz ?_, rfl⟩
    unfold zag
    rw [if_pos HH.out]
    have := HZ.out
    try unfold wrap64
    try simp only [IntKind.wrap_i64, IntKind.wrap_u64]
    omega
  · have e1 : (z : Int).tmod 2 = 1 := by rw [Int.tmod_eq_emod_of_nonneg (by omega)]; omega
    have e2 : (z : Int).tdiv 2 = ((z / 2 : Nat) : Int) := by rw [Int.tdiv_eq_ediv_of_nonneg (by omega)]; omega
    have HH := Lib.hid h
    clear h
    go_enter Tryd.func37, Tryd.ntmps37
    go_wp2_with fail
    go_ret
    refine ⟨ret_intz ?_, rfl⟩
    unfold zag
    rw [if_neg (by have := HH.out; omega)]
    have := HZ.out
    try unfold wrap64
    try simp only [IntKind.wrap_i64, IntKind.wrap_u64]
    omega
end Go.Proofs.YthhgnngpaagagaaDoor
