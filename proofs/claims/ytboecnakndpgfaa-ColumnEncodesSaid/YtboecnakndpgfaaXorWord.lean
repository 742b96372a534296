/-
  The contracts of word.steps, word.Lead, word.Trail. (Printed by genXorWord.py.)
-/
import Derived.Test.YtboecnakndpgfaaRows
import Derived.Test.YtboecnakndpgfaaArgs
import Derived.Test.YtboecnakndpgfaaXorPl
import Derived.WalkKit
import Derived.WalkSpells
import Derived.WalkLawsBesides
import Derived.Outline
import Derived.Lib.Hide
import Derived.Laws.BitsAllLaws
namespace Go.Proofs.Ytboecnakndpgfaa.X
open Go.RowKit
set_option linter.unusedVariables false
def stepsV : Value := .agg #[.int .i64 32, .int .i64 16, .int .i64 8, .int .i64 4, .int .i64 2, .int .i64 1]
def leadLo (k : Nat) : Nat := [1, 4294967296, 281474976710656, 72057594037927936, 1152921504606846976, 4611686018427387904, 9223372036854775808].getD k 0
def leadMost (k : Nat) : Nat := [0, 32, 48, 56, 60, 62, 63].getD k 0
theorem xret_int {a b : Int} (h : a = b) : Ending.returned (.int .i64 a) = .returned (.int .i64 b) := by rw [h]
set_option maxHeartbeats 400000 in
theorem steps_any (w : World) : Calls Try.prog 48 #[] w fun e w' => e = .returned stepsV ∧ Below w.heap.size w w' := by
  go_enter Try.func48, Try.ntmps48
  go_wp2
  exact bodyPost_ret (v := stepsV) (by simp [results, Try.results48, go_sem, stepsV]) rfl ⟨rfl, (Below.refl _ _).alloc (Nat.le_refl _) _⟩
set_option maxRecDepth 100000 in
set_option maxHeartbeats 800000 in
theorem wlead_any (u : Nat) (hu : u < 18446744073709551616) (w : World) :
    Calls Try.prog 45 #[.int .u64 (u : Nat)] w fun e w' => e = .returned (.int .i64 (lead u : Nat)) ∧ Below w.heap.size w w' := by
  by_cases h0 : u = 0
  · subst h0
    go_enter Try.func45, Try.ntmps45
    go_wp2
    go_ret
    exact ⟨rfl, Below.refl _ _⟩
  have HU := Lib.hid (And.intro hu h0)
  have d0 : ((u : Int) == 0) = false := by simp; omega
  clear hu h0
  go_enter Try.func45, Try.ntmps45
  go_wp2_with fail
  refine (steps_any _).mono ?_
  rintro e w1 ⟨rfl, hb1⟩
  have HB := Lib.hid hb1
  clear hb1
  unfold stepsV
  go_wp2_with fail
  go_loop [0, 3, 9] (fun a b i => ∃ k n v : Nat, k ≤ 6 ∧ a = .int .u64 (v : Nat) ∧ b = .int .i64 (n : Nat) ∧ i = .int .i64 (k : Nat) ∧ v = u * 2 ^ n ∧ v < 18446744073709551616 ∧ leadLo k ≤ v ∧ n ≤ leadMost k) (fun _ _ i => 6 - (intOf i).toNat)
  case atStart => exact ⟨0, 0, u, by omega, rfl, rfl, rfl, by omega, HU.out.1, by have := HU.out.2; show 1 ≤ u; omega, Nat.le_refl _⟩
  case round =>
    obtain ⟨k, n, v, hk, rfl, rfl, rfl, hv, hlt, hlo, hn⟩ := hrel
    have HV := Lib.hid hv
    clear hv
    rcases (show k = 0 ∨ k = 1 ∨ k = 2 ∨ k = 3 ∨ k = 4 ∨ k = 5 ∨ k = 6 by omega) with rfl | rfl | rfl | rfl | rfl | rfl | rfl
    · have hlo' : 1 ≤ v := hlo
      have hn' : n ≤ 0 := hn
      clear hlo hn
      have ix : ∀ w, (Instr.index 78 (.agg #[.int .i64 32, .int .i64 16, .int .i64 8, .int .i64 4, .int .i64 2, .int .i64 1]) (.int .i64 0)).run Try.prog w = .ok (.int .i64 32) w := fun _ => by kernel_rfl
      by_cases hb : v < 4294967296
      · have d1 : ((v : Int) / 4294967296 == 0) = true := by simp; omega
        go_wp2_with fail
        go_round
        case rel =>
          refine ⟨1, n + 32, v * 4294967296, by omega, by congr 1, ?_, rfl, ?_, by omega, by show 4294967296 ≤ v * 4294967296; omega, by show n + 32 ≤ 32; omega⟩
          · congr 1
          · rw [Nat.pow_add, ← Nat.mul_assoc, ← HV.out]
        case measure => simp [intOf]
      · have d1 : ((v : Int) / 4294967296 == 0) = false := by simp; omega
        go_wp2_with fail
        go_round
        case rel => exact ⟨1, n, v, by omega, rfl, rfl, rfl, HV.out, hlt, by show 4294967296 ≤ v; omega, by show n ≤ 32; omega⟩
        case measure => simp [intOf]
    · have hlo' : 4294967296 ≤ v := hlo
      have hn' : n ≤ 32 := hn
      clear hlo hn
      have ix : ∀ w, (Instr.index 78 (.agg #[.int .i64 32, .int .i64 16, .int .i64 8, .int .i64 4, .int .i64 2, .int .i64 1]) (.int .i64 1)).run Try.prog w = .ok (.int .i64 16) w := fun _ => by kernel_rfl
      by_cases hb : v < 281474976710656
      · have d1 : ((v : Int) / 281474976710656 == 0) = true := by simp; omega
        go_wp2_with fail
        go_round
        case rel =>
          refine ⟨2, n + 16, v * 65536, by omega, by congr 1, ?_, rfl, ?_, by omega, by show 281474976710656 ≤ v * 65536; omega, by show n + 16 ≤ 48; omega⟩
          · congr 1
          · rw [Nat.pow_add, ← Nat.mul_assoc, ← HV.out]
        case measure => simp [intOf]
      · have d1 : ((v : Int) / 281474976710656 == 0) = false := by simp; omega
        go_wp2_with fail
        go_round
        case rel => exact ⟨2, n, v, by omega, rfl, rfl, rfl, HV.out, hlt, by show 281474976710656 ≤ v; omega, by show n ≤ 48; omega⟩
        case measure => simp [intOf]
    · have hlo' : 281474976710656 ≤ v := hlo
      have hn' : n ≤ 48 := hn
      clear hlo hn
      have ix : ∀ w, (Instr.index 78 (.agg #[.int .i64 32, .int .i64 16, .int .i64 8, .int .i64 4, .int .i64 2, .int .i64 1]) (.int .i64 2)).run Try.prog w = .ok (.int .i64 8) w := fun _ => by kernel_rfl
      by_cases hb : v < 72057594037927936
      · have d1 : ((v : Int) / 72057594037927936 == 0) = true := by simp; omega
        go_wp2_with fail
        go_round
        case rel =>
          refine ⟨3, n + 8, v * 256, by omega, by congr 1, ?_, rfl, ?_, by omega, by show 72057594037927936 ≤ v * 256; omega, by show n + 8 ≤ 56; omega⟩
          · congr 1
          · rw [Nat.pow_add, ← Nat.mul_assoc, ← HV.out]
        case measure => simp [intOf]
      · have d1 : ((v : Int) / 72057594037927936 == 0) = false := by simp; omega
        go_wp2_with fail
        go_round
        case rel => exact ⟨3, n, v, by omega, rfl, rfl, rfl, HV.out, hlt, by show 72057594037927936 ≤ v; omega, by show n ≤ 56; omega⟩
        case measure => simp [intOf]
    · have hlo' : 72057594037927936 ≤ v := hlo
      have hn' : n ≤ 56 := hn
      clear hlo hn
      have ix : ∀ w, (Instr.index 78 (.agg #[.int .i64 32, .int .i64 16, .int .i64 8, .int .i64 4, .int .i64 2, .int .i64 1]) (.int .i64 3)).run Try.prog w = .ok (.int .i64 4) w := fun _ => by kernel_rfl
      by_cases hb : v < 1152921504606846976
      · have d1 : ((v : Int) / 1152921504606846976 == 0) = true := by simp; omega
        go_wp2_with fail
        go_round
        case rel =>
          refine ⟨4, n + 4, v * 16, by omega, by congr 1, ?_, rfl, ?_, by omega, by show 1152921504606846976 ≤ v * 16; omega, by show n + 4 ≤ 60; omega⟩
          · congr 1
          · rw [Nat.pow_add, ← Nat.mul_assoc, ← HV.out]
        case measure => simp [intOf]
      · have d1 : ((v : Int) / 1152921504606846976 == 0) = false := by simp; omega
        go_wp2_with fail
        go_round
        case rel => exact ⟨4, n, v, by omega, rfl, rfl, rfl, HV.out, hlt, by show 1152921504606846976 ≤ v; omega, by show n ≤ 60; omega⟩
        case measure => simp [intOf]
    · have hlo' : 1152921504606846976 ≤ v := hlo
      have hn' : n ≤ 60 := hn
      clear hlo hn
      have ix : ∀ w, (Instr.index 78 (.agg #[.int .i64 32, .int .i64 16, .int .i64 8, .int .i64 4, .int .i64 2, .int .i64 1]) (.int .i64 4)).run Try.prog w = .ok (.int .i64 2) w := fun _ => by kernel_rfl
      by_cases hb : v < 4611686018427387904
      · have d1 : ((v : Int) / 4611686018427387904 == 0) = true := by simp; omega
        go_wp2_with fail
        go_round
        case rel =>
          refine ⟨5, n + 2, v * 4, by omega, by congr 1, ?_, rfl, ?_, by omega, by show 4611686018427387904 ≤ v * 4; omega, by show n + 2 ≤ 62; omega⟩
          · congr 1
          · rw [Nat.pow_add, ← Nat.mul_assoc, ← HV.out]
        case measure => simp [intOf]
      · have d1 : ((v : Int) / 4611686018427387904 == 0) = false := by simp; omega
        go_wp2_with fail
        go_round
        case rel => exact ⟨5, n, v, by omega, rfl, rfl, rfl, HV.out, hlt, by show 4611686018427387904 ≤ v; omega, by show n ≤ 62; omega⟩
        case measure => simp [intOf]
    · have hlo' : 4611686018427387904 ≤ v := hlo
      have hn' : n ≤ 62 := hn
      clear hlo hn
      have ix : ∀ w, (Instr.index 78 (.agg #[.int .i64 32, .int .i64 16, .int .i64 8, .int .i64 4, .int .i64 2, .int .i64 1]) (.int .i64 5)).run Try.prog w = .ok (.int .i64 1) w := fun _ => by kernel_rfl
      by_cases hb : v < 9223372036854775808
      · have d1 : ((v : Int) / 9223372036854775808 == 0) = true := by simp; omega
        go_wp2_with fail
        go_round
        case rel =>
          refine ⟨6, n + 1, v * 2, by omega, by congr 1, ?_, rfl, ?_, by omega, by show 9223372036854775808 ≤ v * 2; omega, by show n + 1 ≤ 63; omega⟩
          · congr 1
          · rw [Nat.pow_add, ← Nat.mul_assoc, ← HV.out]
        case measure => simp [intOf]
      · have d1 : ((v : Int) / 9223372036854775808 == 0) = false := by simp; omega
        go_wp2_with fail
        go_round
        case rel => exact ⟨6, n, v, by omega, rfl, rfl, rfl, HV.out, hlt, by show 9223372036854775808 ≤ v; omega, by show n ≤ 63; omega⟩
        case measure => simp [intOf]
    · have hlo' : 9223372036854775808 ≤ v := hlo
      have hn' : n ≤ 63 := hn
      clear hlo hn
      go_wp2_with fail
      go_ret
      refine ⟨xret_int ?_, HB.out⟩
      have hv := HV.out
      have hp : 2 ^ (63 - n) * 2 ^ n = 9223372036854775808 := by rw [← Nat.pow_add, show 63 - n + n = 63 by omega]
      have hq : 2 ^ (64 - n) * 2 ^ n = 18446744073709551616 := by rw [← Nat.pow_add, show 64 - n + n = 64 by omega]
      have hpos : 0 < 2 ^ n := Nat.two_pow_pos n
      have : lead u = n := lead_uniq hn' (Nat.le_of_mul_le_mul_right (by rw [hp, ← hv]; exact hlo') hpos) (Nat.lt_of_mul_lt_mul_right (a := 2 ^ n) (by rw [hq, ← hv]; exact hlt))
      rw [this]
set_option maxRecDepth 100000 in
set_option maxHeartbeats 800000 in
theorem wtrail_any (u : Nat) (hu : u < 18446744073709551616) (w : World) :
    Calls Try.prog 46 #[.int .u64 (u : Nat)] w fun e w' => e = .returned (.int .i64 (trail u : Nat)) ∧ Below w.heap.size w w' := by
  by_cases h0 : u = 0
  · subst h0
    go_enter Try.func46, Try.ntmps46
    go_wp2
    go_ret
    exact ⟨rfl, Below.refl _ _⟩
  obtain ⟨ht, m, hm⟩ := trail_spec (by omega) hu
  clear hm
  have d0 : ((u : Int) == 0) = false := by simp; omega
  have hlow : bits .and .u64 (u : Int) (IntKind.u64.wrap (-(u : Int))) = ((2 ^ trail u : Nat) : Int) := by
    rw [IntKind.wrap_u64, show -(u : Int) % 18446744073709551616 = ((18446744073709551616 - u : Nat) : Int) by omega, u64_and_nat _ _ hu (by omega), low_bit (by omega) hu]
  have hc := wlead_any (2 ^ trail u) (show 2 ^ trail u < 2 ^ 64 from Nat.pow_lt_pow_right (by omega) (by omega))
  rw [lead_pow ht] at hc
  have HT := Lib.hid (And.intro hu h0)
  clear hu h0
  go_enter Try.func46, Try.ntmps46
  go_wp2_with fail
  rw [show ((2 : Int) ^ trail u) = ((2 ^ trail u : Nat) : Int) by simp]
  refine (hc _).mono ?_
  rintro e w1 ⟨rfl, hb1⟩
  have HB := Lib.hid hb1
  clear hb1
  go_wp2_with fail
  go_ret
  exact ⟨xret_int (by first | omega | (simp only [IntKind.wrap_i64]; omega)), HB.out⟩
end Go.Proofs.Ytboecnakndpgfaa.X
