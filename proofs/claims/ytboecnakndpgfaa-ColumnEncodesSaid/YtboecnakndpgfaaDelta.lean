/-
  The contracts of delta's small functions.
-/
import Derived.Test.YtboecnakndpgfaaBitsPiecesW
import Derived.Test.YtboecnakndpgfaaZig
namespace Go.Proofs.Ytboecnakndpgfaa.D
open Go.RowKit
set_option linter.unusedVariables false
/-- The class of a step of a step. -/
def cls (z : Nat) : Nat := if z = 0 then 0 else if z < 128 then 1 else if z < 4096 then 2 else if z < 4294967296 then 3 else 4
def wd (k : Nat) : Nat := [0, 7, 12, 32, 64].getD k 0
def ah (k : Nat) : Nat := min (k + 1) 4
theorem cls_le (z : Nat) : cls z ≤ 4 := by unfold cls; split; omega; split; omega; split; omega; split <;> omega
def widthsV : Value := .agg #[.int .i64 0, .int .i64 7, .int .i64 12, .int .i64 32, .int .i64 64]
theorem widths_at (k : Nat) (hk : k < 5) (w : World) : (Instr.index 75 (.agg #[.int .i64 0, .int .i64 7, .int .i64 12, .int .i64 32, .int .i64 64]) (.int .i64 (k : Nat))).run Try.prog w = .ok (.int .i64 (wd k : Nat)) w := by
  rcases (show k = 0 ∨ k = 1 ∨ k = 2 ∨ k = 3 ∨ k = 4 by omega) with rfl | rfl | rfl | rfl | rfl <;> kernel_rfl
set_option maxHeartbeats 400000 in
theorem widths_any (w : World) : Calls Try.prog 44 #[] w fun e w' => e = .returned widthsV ∧ Below w.heap.size w w' := by
  go_enter Try.func44, Try.ntmps44
  go_wp2
  exact bodyPost_ret (v := widthsV) (by simp [results, Try.results44, go_sem, widthsV]) rfl ⟨rfl, (Below.refl _ _).alloc (Nat.le_refl _) _⟩
set_option maxHeartbeats 400000 in
theorem ahead_any (k : Nat) (hk : k ≤ 4) (w : World) : Calls Try.prog 43 #[.int .i64 (k : Nat)] w fun e w' => e = .returned (.int .i64 (ah k : Nat)) ∧ w = w' := by
  rcases (show k = 0 ∨ k = 1 ∨ k = 2 ∨ k = 3 ∨ k = 4 by omega) with rfl | rfl | rfl | rfl | rfl
  all_goals
    go_enter Try.func43, Try.ntmps43
    go_wp2
    go_ret
    exact ⟨rfl, rfl⟩
set_option maxRecDepth 100000 in
set_option maxHeartbeats 800000 in
theorem classOf_any (z : Nat) (hz : z < 18446744073709551616) (w : World) :
    Calls Try.prog 42 #[.int .u64 (z : Nat)] w fun e w' => e = .returned (.int .i64 (cls z : Nat)) ∧ Below w.heap.size w w' := by
  have HZ := Lib.hid hz
  clear hz
  go_enter Try.func42, Try.ntmps42
  go_wp2_with fail
  refine (widths_any _).mono ?_
  rintro e w1 ⟨rfl, hb1⟩
  have HB := Lib.hid hb1
  clear hb1
  unfold widthsV
  go_wp2_with fail
  go_loop [6] (fun i => ∃ k : Nat, k ≤ 4 ∧ i = .int .i64 k ∧ (1 ≤ k → 1 ≤ z) ∧ (2 ≤ k → 128 ≤ z) ∧ (3 ≤ k → 4096 ≤ z) ∧ (4 ≤ k → 4294967296 ≤ z)) (fun i => 5 - (intOf i).toNat)
  case atStart => exact ⟨0, by omega, rfl, by omega, by omega, by omega, by omega⟩
  case round =>
    obtain ⟨k, hk, rfl, h1, h2, h3, h4⟩ := hrel
    rcases (show k = 0 ∨ k = 1 ∨ k = 2 ∨ k = 3 ∨ k = 4 by omega) with rfl | rfl | rfl | rfl | rfl
    · have ix : ∀ w, (Instr.index 75 (.agg #[.int .i64 0, .int .i64 7, .int .i64 12, .int .i64 32, .int .i64 64]) (.int .i64 0)).run Try.prog w = .ok (.int .i64 0) w := fun _ => by kernel_rfl
      by_cases hb : z < 1
      · have d1 : ((z : Int) / 1 == 0) = true := by simp; omega
        have d2 : ((z : Int) == 0) = decide (z = 0) := by by_cases h : z = 0 <;> simp [h]
        have d3 : z = 0 := by omega
        have d4 : decide (z = 0) = true := by simp [d3]
        have HD := Lib.hid d3
        clear d3
        go_wp2_with fail
        go_ret
        refine ⟨ret_int ?_, HB.out⟩
        have : cls z = 0 := by unfold cls; have := HD.out; repeat (first | rw [if_pos (by omega)] | rw [if_neg (by omega)])
        rw [this]; rfl
      · have d1 : ((z : Int) / 1 == 0) = false := by simp; omega
        have d2 : ((z : Int) == 0) = false := by simp; omega
        go_wp2_with fail
        go_round
        case rel => exact ⟨1, by omega, rfl, by omega, by omega, by omega, by omega⟩
        case measure => simp [intOf]
    · have ix : ∀ w, (Instr.index 75 (.agg #[.int .i64 0, .int .i64 7, .int .i64 12, .int .i64 32, .int .i64 64]) (.int .i64 1)).run Try.prog w = .ok (.int .i64 7) w := fun _ => by kernel_rfl
      by_cases hb : z < 128
      · have d1 : ((z : Int) / 128 == 0) = true := by simp; omega
        have d2 : ((z : Int) == 0) = decide (z = 0) := by by_cases h : z = 0 <;> simp [h]
        clear d2
        go_wp2_with fail
        go_ret
        refine ⟨ret_int ?_, HB.out⟩
        have : cls z = 1 := by unfold cls; repeat (first | rw [if_pos (by omega)] | rw [if_neg (by omega)])
        rw [this]; rfl
      · have d1 : ((z : Int) / 128 == 0) = false := by simp; omega
        skip
        go_wp2_with fail
        go_round
        case rel => exact ⟨2, by omega, rfl, by omega, by omega, by omega, by omega⟩
        case measure => simp [intOf]
    · have ix : ∀ w, (Instr.index 75 (.agg #[.int .i64 0, .int .i64 7, .int .i64 12, .int .i64 32, .int .i64 64]) (.int .i64 2)).run Try.prog w = .ok (.int .i64 12) w := fun _ => by kernel_rfl
      by_cases hb : z < 4096
      · have d1 : ((z : Int) / 4096 == 0) = true := by simp; omega
        have d2 : ((z : Int) == 0) = decide (z = 0) := by by_cases h : z = 0 <;> simp [h]
        clear d2
        go_wp2_with fail
        go_ret
        refine ⟨ret_int ?_, HB.out⟩
        have : cls z = 2 := by unfold cls; repeat (first | rw [if_pos (by omega)] | rw [if_neg (by omega)])
        rw [this]; rfl
      · have d1 : ((z : Int) / 4096 == 0) = false := by simp; omega
        skip
        go_wp2_with fail
        go_round
        case rel => exact ⟨3, by omega, rfl, by omega, by omega, by omega, by omega⟩
        case measure => simp [intOf]
    · have ix : ∀ w, (Instr.index 75 (.agg #[.int .i64 0, .int .i64 7, .int .i64 12, .int .i64 32, .int .i64 64]) (.int .i64 3)).run Try.prog w = .ok (.int .i64 32) w := fun _ => by kernel_rfl
      by_cases hb : z < 4294967296
      · have d1 : ((z : Int) / 4294967296 == 0) = true := by simp; omega
        have d2 : ((z : Int) == 0) = decide (z = 0) := by by_cases h : z = 0 <;> simp [h]
        clear d2
        go_wp2_with fail
        go_ret
        refine ⟨ret_int ?_, HB.out⟩
        have : cls z = 3 := by unfold cls; repeat (first | rw [if_pos (by omega)] | rw [if_neg (by omega)])
        rw [this]; rfl
      · have d1 : ((z : Int) / 4294967296 == 0) = false := by simp; omega
        skip
        go_wp2_with fail
        go_round
        case rel => exact ⟨4, by omega, rfl, by omega, by omega, by omega, by omega⟩
        case measure => simp [intOf]
    · have ix : ∀ w, (Instr.index 75 (.agg #[.int .i64 0, .int .i64 7, .int .i64 12, .int .i64 32, .int .i64 64]) (.int .i64 4)).run Try.prog w = .ok (.int .i64 64) w := fun _ => by kernel_rfl
      go_wp2_with fail
      go_ret
      refine ⟨ret_int ?_, HB.out⟩
      have : cls z = 4 := by unfold cls; repeat (first | rw [if_pos (by omega)] | rw [if_neg (by omega)])
      rw [this]; rfl
end Go.Proofs.Ytboecnakndpgfaa.D
