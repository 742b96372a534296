/-
  The contracts of tidemillref05's class, sub, Size and Encode.
-/
import Derived.Test.YtboecnakndpgfaaDeltaSizesW
import Derived.Test.YtboecnakndpgfaaBitsRy
import Derived.Deep.LoopGhost
namespace Go.Proofs.Ytboecnakndpgfaa.D
open Go.RowKit
set_option linter.unusedVariables false
set_option linter.unusedSimpArgs false
theorem ret2_int {k l : IntKind} {a b c d : Int} (h : a = b) (h' : c = d) : Ending.returned (.tuple #[.int k a, .int l c]) = .returned (.tuple #[.int k b, .int l d]) := by rw [h, h']
set_option maxRecDepth 100000 in
set_option maxHeartbeats 400000 in
theorem class_any (z : Nat) (w : World) : Calls Try.prog 33 #[.int .u64 (z : Nat)] w fun e w' => e = .returned (.tuple #[.int .i64 (cls z : Nat), .int .i64 (wd (cls z) : Nat)]) ∧ w = w' := by
  by_cases h0 : z = 0
  · subst h0
    have d0 : (((0 : Nat) : Int) == 0) = true := rfl
    go_enter Try.func33, Try.ntmps33
    go_wp2
    go_ret2
    exact ⟨rfl, rfl⟩
  · have d0 : ((z : Int) == 0) = false := by simp; omega
    by_cases h1 : z < 128
    · have e : cls z = 1 := by unfold cls; rw [if_neg h0, if_pos h1]
      rw [e]
      clear e h0
      go_enter Try.func33, Try.ntmps33
      go_wp2
      go_ret2
      exact ⟨rfl, rfl⟩
    · by_cases h2 : z < 4096
      · have e : cls z = 2 := by unfold cls; rw [if_neg h0, if_neg h1, if_pos h2]
        rw [e]
        clear e h0
        go_enter Try.func33, Try.ntmps33
        go_wp2
        go_ret2
        exact ⟨rfl, rfl⟩
      · by_cases h3 : z < 4294967296
        · have e : cls z = 3 := by unfold cls; rw [if_neg h0, if_neg h1, if_neg h2, if_pos h3]
          rw [e]
          have d1 : decide ((z : Int) < 128) = false := by simp; omega
          have d2 : decide ((z : Int) < 4096) = false := by simp; omega
          have d3 : decide ((z : Int) < 4294967296) = true := by simp; omega
          clear e h0 h1 h2 h3
          go_enter Try.func33, Try.ntmps33
          go_wp2
          go_ret2
          exact ⟨rfl, rfl⟩
        · have e : cls z = 4 := by unfold cls; rw [if_neg h0, if_neg h1, if_neg h2, if_neg h3]
          rw [e]
          have d1 : decide ((z : Int) < 128) = false := by simp; omega
          have d2 : decide ((z : Int) < 4096) = false := by simp; omega
          have d3 : decide ((z : Int) < 4294967296) = false := by simp; omega
          clear e h0 h1 h2 h3
          go_enter Try.func33, Try.ntmps33
          go_wp2
          go_ret2
          exact ⟨rfl, rfl⟩
set_option maxRecDepth 100000 in
set_option maxHeartbeats 400000 in
theorem rsub_any (a b : Int) (w : World) (a0 : -9223372036854775808 ≤ a) (a1 : a ≤ 9223372036854775807) (b0 : -9223372036854775808 ≤ b) (b1 : b ≤ 9223372036854775807) :
    Calls Try.prog 31 #[.int .i64 a, .int .i64 b] w fun e w' => e = .returned (.int .i64 (sub64 a b)) ∧ w = w' := by
  have H := Lib.hid (And.intro a0 (And.intro a1 (And.intro b0 b1)))
  clear a0 a1 b0 b1
  go_enter Try.func31, Try.ntmps31
  go_wp2
  go_ret
  refine ⟨ret_int ?_, rfl⟩
  obtain ⟨a0, a1, b0, b1⟩ := H.out
  unfold sub64
  unfold wrap64
  simp only [IntKind.wrap_u64]
  omega
theorem rput_fit (w : World) (a : Nat) (g : Option Nat) (L : List Nat) (v n : Int) (h : RWr w a g L) (h0 : 0 ≤ v) (hv : v < 18446744073709551616) (n0 : 0 ≤ n) (n64 : n ≤ 64) (hl : (L.length : Int) + 64 ≤ 8388608) :
    Calls Try.prog 30 #[.pointer (some ⟨a, 0, none⟩), .int .u64 v, .int .i64 n] w (RPutPost w a g (L ++ bitsTo v.toNat n.toNat n.toNat) 0) := by
  obtain ⟨v, rfl⟩ := Int.eq_ofNat_of_zero_le h0
  obtain ⟨n, rfl⟩ := Int.eq_ofNat_of_zero_le n0
  exact rput_ok w a g L v n h (by omega) (by omega) (by omega)
theorem dbits_ref (z : Nat) : dbits z = List.replicate (cls z) 1 ++ (if cls z < 4 then [0] else []) ++ bitsTo z (wd (cls z)) (wd (cls z)) := by
  unfold dbits
  congr 1
  have hk := cls_le z
  generalize cls z = k at *
  rcases (show k = 0 ∨ k = 1 ∨ k = 2 ∨ k = 3 ∨ k = 4 by omega) with rfl | rfl | rfl | rfl | rfl <;> decide
end Go.Proofs.Ytboecnakndpgfaa.D
