/-
  The contracts of tidemillref05's class, sub, Size and Encode.
-/
import Derived.Test.YtgphdigcilbnlaaDeltaSizesW
import Derived.Test.YtgphdigcilbnlaaBitsRy
import Derived.Deep.LoopGhost
namespace Go.Proofs.Ytgphdigcilbnlaa
open Go.RowKit
set_option linter.unusedVariables false
set_option linter.unusedSimpArgs false
theorem ret2_int {k l : IntKind} {a b c d : Int} (h : a = b) (h' : c = d) : Ending.returned (.tuple #[.int k a, .int l c]) = .returned (.tuple #[.int k b, .int l d]) := by rw [h, h']
set_option maxRecDepth 100000 in
set_option maxHeartbeats 400000 in
theorem class_any (z : Nat) (w : World) : Calls Try.prog 42 #[.int .u64 (z : Nat)] w fun e w' => e = .returned (.tuple #[.int .i64 (cls z : Nat), .int .i64 (wd (cls z) : Nat)]) ∧ w = w' := by
  by_cases h0 : z = 0
  · subst h0
    have d0 : (((0 : Nat) : Int) == 0) = true := rfl
    go_enter Try.func42, Try.ntmps42
    go_wp2
    go_ret2
    exact ⟨rfl, rfl⟩
  · have d0 : ((z : Int) == 0) = false := by simp; omega
    by_cases h1 : z < 128
    · have e : cls z = 1 := by unfold cls; rw [if_neg h0, if_pos h1]
      rw [e]
      clear e h0
      go_enter Try.func42, Try.ntmps42
      go_wp2
      go_ret2
      exact ⟨rfl, rfl⟩
    · by_cases h2 : z < 4096
      · have e : cls z = 2 := by unfold cls; rw [if_neg h0, if_neg h1, if_pos h2]
        rw [e]
        clear e h0
        go_enter Try.func42, Try.ntmps42
        go_wp2
        go_ret2
        exact ⟨rfl, rfl⟩
      · by_cases h3 : z < 4294967296
        · have e : cls z = 3 := by unfold cls; rw [if_neg h0, if_neg h1, if_neg h2, if_pos h3]
          rw [e]
          have d1 : decide ((z : Int) < 128) = false := by simp; omega
          have d2 : decide ((z : Int) < 4096) = false := by simp; omega
          have d3 : decide ((z : Int) < 4294967296) = true := by simp; omega
          clear e h0 h1 h2 h3
          go_enter Try.func42, Try.ntmps42
          go_wp2
          go_ret2
          exact ⟨rfl, rfl⟩
        · have e : cls z = 4 := by unfold cls; rw [if_neg h0, if_neg h1, if_neg h2, if_neg h3]
          rw [e]
          have d1 : decide ((z : Int) < 128) = false := by simp; omega
          have d2 : decide ((z : Int) < 4096) = false := by simp; omega
          have d3 : decide ((z : Int) < 4294967296) = false := by simp; omega
          clear e h0 h1 h2 h3
          go_enter Try.func42, Try.ntmps42
          go_wp2
          go_ret2
          exact ⟨rfl, rfl⟩
set_option maxRecDepth 100000 in
set_option maxHeartbeats 400000 in
theorem rsub_any (a b : Int) (w : World) (a0 : -9223372036854775808 ≤ a) (a1 : a ≤ 9223372036854775807) (b0 : -9223372036854775808 ≤ b) (b1 : b ≤ 9223372036854775807) :
    Calls Try.prog 40 #[.int .i64 a, .int .i64 b] w fun e w' => e = .returned (.int .i64 (sub64 a b)) ∧ w = w' := by
  have H := Lib.hid (And.intro a0 (And.intro a1 (And.intro b0 b1)))
  clear a0 a1 b0 b1
  go_enter Try.func40, Try.ntmps40
  go_wp2
  go_ret
  refine ⟨ret_int ?_, rfl⟩
  obtain ⟨a0, a1, b0, b1⟩ := H.out
  unfold sub64
  unfold wrap64
  simp only [IntKind.wrap_u64]
  omega
set_option maxRecDepth 100000 in
set_option maxHeartbeats 400000 in
theorem rsize_any (n : Int) (w : World) (h0 : -9223372036854775808 ≤ n) (h1 : n ≤ 9223372036854775807) :
    Calls Try.prog 30 #[.int .i64 n] w fun e w' => e = .returned (.int .i64 ((ah (cls (zig n)) + wd (cls (zig n)) : Nat) : Int)) ∧ w = w' := by
  have HZ := Lib.hid (And.intro h0 h1)
  clear h0 h1
  go_enter Try.func30, Try.ntmps30
  go_wp2_with fail
  refine (rzig_any _ _ HZ.out.1 HZ.out.2).mono ?_
  rintro e w1 ⟨rfl, rfl⟩
  go_wp2_with fail
  refine (class_any _ _).mono ?_
  rintro e w2 ⟨rfl, rfl⟩
  have hk := cls_le (zig n)
  obtain ⟨k, hkk⟩ : ∃ k, k = cls (zig n) := ⟨_, rfl⟩
  rw [← hkk] at hk
  rw [← hkk]
  have H2 := Lib.hid hkk
  clear hkk
  have l2 := wd_le hk
  by_cases h4 : k = 4
  · have d : ((k : Int) == 4) = true := by simp; omega
    have H4 := Lib.hid h4
    clear h4
    go_wp2_with fail
    go_ret
    refine ⟨ret_int ?_, rfl⟩
    rw [← H2.out, H4.out]
    rfl
  · have d : ((k : Int) == 4) = false := by simp; omega
    go_wp2_with fail
    go_ret
    refine ⟨ret_int ?_, rfl⟩
    rw [← H2.out]
    have : ah k = k + 1 := by unfold ah; omega
    omega
theorem rput_fit (w : World) (a : Nat) (g : Option Nat) (L : List Nat) (v n : Int) (h : RWr w a g L) (h0 : 0 ≤ v) (hv : v < 18446744073709551616) (n0 : 0 ≤ n) (n64 : n ≤ 64) (hl : (L.length : Int) + 64 ≤ 8388608) :
    Calls Try.prog 22 #[.pointer (some ⟨a, 0, none⟩), .int .u64 v, .int .i64 n] w (RPutPost w a g (L ++ bitsTo v.toNat n.toNat n.toNat) 0) := by
  obtain ⟨v, rfl⟩ := Int.eq_ofNat_of_zero_le h0
  obtain ⟨n, rfl⟩ := Int.eq_ofNat_of_zero_le n0
  exact rput_ok w a g L v n h (by omega) (by omega) (by omega)
theorem dbits_ref (z : Nat) : dbits z = List.replicate (cls z) 1 ++ (if cls z < 4 then [0] else []) ++ bitsTo z (wd (cls z)) (wd (cls z)) := by
  unfold dbits
  congr 1
  have hk := cls_le z
  generalize cls z = k at *
  rcases (show k = 0 ∨ k = 1 ∨ k = 2 ∨ k = 3 ∨ k = 4 by omega) with rfl | rfl | rfl | rfl | rfl <;> decide
end Go.Proofs.Ytgphdigcilbnlaa
