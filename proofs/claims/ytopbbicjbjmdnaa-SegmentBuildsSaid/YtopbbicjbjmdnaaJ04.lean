/-
  Texts of this proof, joined: XorPl, XorWord, XorWin, BitsRw, BitsRy, BitsFit, XorEn.
-/
import Derived.Below
import Derived.Laws.BitsAllLaws
import Derived.Laws.BitsLemmas
import Derived.Test.YtopbbicjbjmdnaaRows
import Derived.Test.YtopbbicjbjmdnaaJ01
import Derived.WalkKit
import Derived.WalkSpells
import Derived.WalkLawsBesides
import Derived.Outline
import Derived.Lib.Hide
import Derived.Test.YtopbbicjbjmdnaaJ03
namespace Go.Proofs.Ytopbbicjbjmdnaa.X
/-- How many of 64 bits are 0 ahead of the first bit 1. -/
def lead (u : Nat) : Nat := if u = 0 then 64 else 63 - Nat.log2 u
/-- How many of n bits are 0 behind the last bit 1. -/
def trailF : Nat → Nat → Nat
  | 0, _ => 0
  | n + 1, u => if u % 2 = 0 then trailF n (u / 2) + 1 else 0
def trail (u : Nat) : Nat := trailF 64 u
theorem lead_spec {u : Nat} (h0 : 0 < u) (h : u < 18446744073709551616) : lead u ≤ 63 ∧ 2 ^ (63 - lead u) ≤ u ∧ u < 2 ^ (64 - lead u) := by
  have hl : Nat.log2 u < 64 := (Nat.log2_lt (by omega)).2 h
  have hu : lead u = 63 - Nat.log2 u := by unfold lead; rw [if_neg (by omega)]
  rw [hu]
  refine ⟨by omega, ?_, ?_⟩
  · rw [show 63 - (63 - Nat.log2 u) = Nat.log2 u by omega]; exact Nat.log2_self_le (by omega)
  · rw [show 64 - (63 - Nat.log2 u) = Nat.log2 u + 1 by omega]; exact Nat.lt_log2_self
theorem lead_uniq {u n : Nat} (hn : n ≤ 63) (h1 : 2 ^ (63 - n) ≤ u) (h2 : u < 2 ^ (64 - n)) : lead u = n := by
  have hp : 0 < 2 ^ (63 - n) := Nat.two_pow_pos _
  have h3 : Nat.log2 u < 64 - n := (Nat.log2_lt (by omega)).2 h2
  have h4 : ¬ Nat.log2 u < 63 - n := fun h => by have := (Nat.log2_lt (by omega)).1 h; omega
  unfold lead; rw [if_neg (by omega)]; omega
theorem lead_zero : lead 0 = 64 := rfl
theorem lead_pow {t : Nat} (h : t ≤ 63) : lead (2 ^ t) = 63 - t := by
  refine lead_uniq (by omega) ?_ ?_
  · rw [show 63 - (63 - t) = t by omega]; exact Nat.le_refl _
  · exact Nat.pow_lt_pow_right (by omega) (by omega)
theorem trailF_zero (n : Nat) : trailF n 0 = n := by
  induction n with
  | zero => rfl
  | succ n ih => simp [trailF, ih]
theorem trail_zero : trail 0 = 64 := trailF_zero 64
theorem trailF_spec (n : Nat) : ∀ u, 0 < u → u < 2 ^ n → trailF n u < n ∧ ∃ m, u = 2 ^ trailF n u * (2 * m + 1) := by
  induction n with
  | zero => intro u h0 h; simp at h; omega
  | succ n ih =>
    intro u h0 h
    rw [Nat.pow_succ] at h
    by_cases hu : u % 2 = 0
    · obtain ⟨h1, m, hm⟩ := ih (u / 2) (by omega) (by omega)
      have ht : trailF (n + 1) u = trailF n (u / 2) + 1 := by simp [trailF, hu]
      rw [ht]
      refine ⟨by omega, m, ?_⟩
      rw [Nat.pow_succ, Nat.mul_comm (2 ^ _) 2, Nat.mul_assoc, ← hm]; omega
    · have ht : trailF (n + 1) u = 0 := by simp [trailF, hu]
      rw [ht]
      exact ⟨by omega, u / 2, by omega⟩
theorem trail_spec {u : Nat} (h0 : 0 < u) (h : u < 18446744073709551616) : trail u ≤ 63 ∧ ∃ m, u = 2 ^ trail u * (2 * m + 1) := by
  obtain ⟨h1, h2⟩ := trailF_spec 64 u h0 h
  exact ⟨by unfold trail; omega, h2⟩
theorem odd_uniq (t : Nat) : ∀ s m k : Nat, 2 ^ t * (2 * m + 1) = 2 ^ s * (2 * k + 1) → t = s := by
  induction t with
  | zero =>
    intro s m k h
    cases s with
    | zero => rfl
    | succ s => rw [Nat.pow_succ, Nat.mul_comm (2 ^ s) 2, Nat.mul_assoc] at h; generalize 2 ^ s * (2 * k + 1) = z at h; simp at h; omega
  | succ t ih =>
    intro s m k h
    cases s with
    | zero => rw [Nat.pow_succ, Nat.mul_comm (2 ^ t) 2, Nat.mul_assoc] at h; generalize 2 ^ t * (2 * m + 1) = z at h; simp at h; omega
    | succ s =>
      rw [Nat.pow_succ, Nat.pow_succ, Nat.mul_comm (2 ^ s) 2, Nat.mul_comm (2 ^ t) 2, Nat.mul_assoc, Nat.mul_assoc] at h
      rw [ih s m k (by omega)]
theorem trail_uniq {u t m : Nat} (h : u < 18446744073709551616) (hm : u = 2 ^ t * (2 * m + 1)) : trail u = t := by
  have hp : 0 < 2 ^ t := Nat.two_pow_pos _
  have h0 : 0 < u := by rw [hm]; exact Nat.mul_pos hp (by omega)
  obtain ⟨_, k, hk⟩ := trail_spec h0 h
  exact odd_uniq _ _ k m (hk.symm.trans hm)
theorem window_le {u : Nat} (h0 : 0 < u) (h : u < 18446744073709551616) : lead u + trail u ≤ 63 := by
  obtain ⟨h1, h2, h3⟩ := lead_spec h0 h
  obtain ⟨h4, m, hm⟩ := trail_spec h0 h
  have h5 : 2 ^ trail u ≤ u := by
    calc 2 ^ trail u = 2 ^ trail u * 1 := by omega
      _ ≤ 2 ^ trail u * (2 * m + 1) := Nat.mul_le_mul_left _ (by omega)
      _ = u := hm.symm
  have h6 : trail u < 64 - lead u := (Nat.pow_lt_pow_iff_right (by omega : 1 < 2)).1 (Nat.lt_of_le_of_lt h5 h3)
  omega
theorem and_compl {n m : Nat} (h : m < 2 ^ n) : m &&& (2 ^ n - (m + 1)) = 0 := by
  apply Nat.eq_of_testBit_eq
  intro i
  rw [Nat.testBit_and, Nat.testBit_two_pow_sub_succ h, Nat.zero_testBit]
  cases Nat.testBit m i <;> simp
theorem odd_and (m k : Nat) : (2 * m + 1) &&& (2 * k + 1) = 2 * (m &&& k) + 1 := by
  apply Nat.eq_of_testBit_eq
  intro i
  cases i with
  | zero => simp [Nat.testBit_zero]
  | succ i => rw [Nat.testBit_and, Nat.testBit_succ, Nat.testBit_succ, Nat.testBit_succ, show (2 * m + 1) / 2 = m by omega, show (2 * k + 1) / 2 = k by omega, show (2 * (m &&& k) + 1) / 2 = m &&& k by omega, Nat.testBit_and]
/-- The lowest bit 1. -/
theorem low_bit {u : Nat} (h0 : 0 < u) (h : u < 18446744073709551616) : u &&& (18446744073709551616 - u) = 2 ^ trail u := by
  obtain ⟨h4, m, hm⟩ := trail_spec h0 h
  generalize trail u = t at h4 hm
  have hp : 0 < 2 ^ t := Nat.two_pow_pos _
  have h64 : 18446744073709551616 = 2 ^ t * (2 * 2 ^ (63 - t)) := by
    rw [show 2 * 2 ^ (63 - t) = 2 ^ (64 - t) by rw [← Nat.pow_succ']; congr 1; omega, ← Nat.pow_add, show t + (64 - t) = 64 by omega]
  have hm' : m < 2 ^ (63 - t) := by
    have h7 : 2 ^ t * (2 * m + 1) < 2 ^ t * (2 * 2 ^ (63 - t)) := by rw [← h64, ← hm]; exact h
    have := Nat.lt_of_mul_lt_mul_left h7
    omega
  have hk : 18446744073709551616 - u = 2 ^ t * (2 * (2 ^ (63 - t) - (m + 1)) + 1) := by
    rw [h64, hm, ← Nat.mul_sub]; congr 1; omega
  rw [hk, hm, Nat.mul_comm (2 ^ t), Nat.mul_comm (2 ^ t), ← Nat.shiftLeft_eq, ← Nat.shiftLeft_eq, ← Nat.shiftLeft_and_distrib, odd_and, and_compl hm', Nat.shiftLeft_eq]
  omega
end Go.Proofs.Ytopbbicjbjmdnaa.X
namespace Go.Proofs.Ytopbbicjbjmdnaa.X
open Go.RowKit
set_option linter.unusedVariables false
def stepsV : Value := .agg #[.int .i64 32, .int .i64 16, .int .i64 8, .int .i64 4, .int .i64 2, .int .i64 1]
def leadLo (k : Nat) : Nat := [1, 4294967296, 281474976710656, 72057594037927936, 1152921504606846976, 4611686018427387904, 9223372036854775808].getD k 0
def leadMost (k : Nat) : Nat := [0, 32, 48, 56, 60, 62, 63].getD k 0
theorem xret_int {a b : Int} (h : a = b) : Ending.returned (.int .i64 a) = .returned (.int .i64 b) := by rw [h]
set_option maxHeartbeats 400000 in
theorem steps_any (w : World) : Calls Try.prog 68 #[] w fun e w' => e = .returned stepsV ∧ Below w.heap.size w w' := by
  go_enter Try.func68, Try.ntmps68
  go_wp2
  exact bodyPost_ret (v := stepsV) (by simp [results, Try.results68, go_sem, stepsV]) rfl ⟨rfl, (Below.refl _ _).alloc (Nat.le_refl _) _⟩
set_option maxRecDepth 100000 in
set_option maxHeartbeats 800000 in
theorem wlead_any (u : Nat) (hu : u < 18446744073709551616) (w : World) :
    Calls Try.prog 65 #[.int .u64 (u : Nat)] w fun e w' => e = .returned (.int .i64 (lead u : Nat)) ∧ Below w.heap.size w w' := by
  by_cases h0 : u = 0
  · subst h0
    go_enter Try.func65, Try.ntmps65
    go_wp2
    go_ret
    exact ⟨rfl, Below.refl _ _⟩
  have HU := Lib.hid (And.intro hu h0)
  have d0 : ((u : Int) == 0) = false := by simp; omega
  clear hu h0
  go_enter Try.func65, Try.ntmps65
  go_wp2_with fail
  refine (steps_any _).mono ?_
  rintro e w1 ⟨rfl, hb1⟩
  have HB := Lib.hid hb1
  clear hb1
  unfold stepsV
  go_wp2_with fail
  go_loop [0, 3, 9] (fun a b i => ∃ k n v : Nat, k ≤ 6 ∧ a = .int .u64 (v : Nat) ∧ b = .int .i64 (n : Nat) ∧ i = .int .i64 (k : Nat) ∧ v = u * 2 ^ n ∧ v < 18446744073709551616 ∧ leadLo k ≤ v ∧ n ≤ leadMost k) (fun _ _ i => 6 - (intOf i).toNat)
  case atStart => exact ⟨0, 0, u, by omega, rfl, rfl, rfl, by omega, HU.out.1, by have := HU.out.2; show 1 ≤ u; omega, Nat.le_refl _⟩
  case round =>
    obtain ⟨k, n, v, hk, rfl, rfl, rfl, hv, hlt, hlo, hn⟩ := hrel
    have HV := Lib.hid hv
    clear hv
    rcases (show k = 0 ∨ k = 1 ∨ k = 2 ∨ k = 3 ∨ k = 4 ∨ k = 5 ∨ k = 6 by omega) with rfl | rfl | rfl | rfl | rfl | rfl | rfl
    · have hlo' : 1 ≤ v := hlo
      have hn' : n ≤ 0 := hn
      clear hlo hn
      have ix : ∀ w, (Instr.index 106 (.agg #[.int .i64 32, .int .i64 16, .int .i64 8, .int .i64 4, .int .i64 2, .int .i64 1]) (.int .i64 0)).run Try.prog w = .ok (.int .i64 32) w := fun _ => by kernel_rfl
      by_cases hb : v < 4294967296
      · have d1 : ((v : Int) / 4294967296 == 0) = true := by simp; omega
        go_wp2_with fail
        go_round
        case rel =>
          refine ⟨1, n + 32, v * 4294967296, by omega, by congr 1, ?_, rfl, ?_, by omega, by show 4294967296 ≤ v * 4294967296; omega, by show n + 32 ≤ 32; omega⟩
          · congr 1
          · rw [Nat.pow_add, ← Nat.mul_assoc, ← HV.out]
        case measure => simp [intOf]
      · have d1 : ((v : Int) / 4294967296 == 0) = false := by simp; omega
        go_wp2_with fail
        go_round
        case rel => exact ⟨1, n, v, by omega, rfl, rfl, rfl, HV.out, hlt, by show 4294967296 ≤ v; omega, by show n ≤ 32; omega⟩
        case measure => simp [intOf]
    · have hlo' : 4294967296 ≤ v := hlo
      have hn' : n ≤ 32 := hn
      clear hlo hn
      have ix : ∀ w, (Instr.index 106 (.agg #[.int .i64 32, .int .i64 16, .int .i64 8, .int .i64 4, .int .i64 2, .int .i64 1]) (.int .i64 1)).run Try.prog w = .ok (.int .i64 16) w := fun _ => by kernel_rfl
      by_cases hb : v < 281474976710656
      · have d1 : ((v : Int) / 281474976710656 == 0) = true := by simp; omega
        go_wp2_with fail
        go_round
        case rel =>
          refine ⟨2, n + 16, v * 65536, by omega, by congr 1, ?_, rfl, ?_, by omega, by show 281474976710656 ≤ v * 65536; omega, by show n + 16 ≤ 48; omega⟩
          · congr 1
          · rw [Nat.pow_add, ← Nat.mul_assoc, ← HV.out]
        case measure => simp [intOf]
      · have d1 : ((v : Int) / 281474976710656 == 0) = false := by simp; omega
        go_wp2_with fail
        go_round
        case rel => exact ⟨2, n, v, by omega, rfl, rfl, rfl, HV.out, hlt, by show 281474976710656 ≤ v; omega, by show n ≤ 48; omega⟩
        case measure => simp [intOf]
    · have hlo' : 281474976710656 ≤ v := hlo
      have hn' : n ≤ 48 := hn
      clear hlo hn
      have ix : ∀ w, (Instr.index 106 (.agg #[.int .i64 32, .int .i64 16, .int .i64 8, .int .i64 4, .int .i64 2, .int .i64 1]) (.int .i64 2)).run Try.prog w = .ok (.int .i64 8) w := fun _ => by kernel_rfl
      by_cases hb : v < 72057594037927936
      · have d1 : ((v : Int) / 72057594037927936 == 0) = true := by simp; omega
        go_wp2_with fail
        go_round
        case rel =>
          refine ⟨3, n + 8, v * 256, by omega, by congr 1, ?_, rfl, ?_, by omega, by show 72057594037927936 ≤ v * 256; omega, by show n + 8 ≤ 56; omega⟩
          · congr 1
          · rw [Nat.pow_add, ← Nat.mul_assoc, ← HV.out]
        case measure => simp [intOf]
      · have d1 : ((v : Int) / 72057594037927936 == 0) = false := by simp; omega
        go_wp2_with fail
        go_round
        case rel => exact ⟨3, n, v, by omega, rfl, rfl, rfl, HV.out, hlt, by show 72057594037927936 ≤ v; omega, by show n ≤ 56; omega⟩
        case measure => simp [intOf]
    · have hlo' : 72057594037927936 ≤ v := hlo
      have hn' : n ≤ 56 := hn
      clear hlo hn
      have ix : ∀ w, (Instr.index 106 (.agg #[.int .i64 32, .int .i64 16, .int .i64 8, .int .i64 4, .int .i64 2, .int .i64 1]) (.int .i64 3)).run Try.prog w = .ok (.int .i64 4) w := fun _ => by kernel_rfl
      by_cases hb : v < 1152921504606846976
      · have d1 : ((v : Int) / 1152921504606846976 == 0) = true := by simp; omega
        go_wp2_with fail
        go_round
        case rel =>
          refine ⟨4, n + 4, v * 16, by omega, by congr 1, ?_, rfl, ?_, by omega, by show 1152921504606846976 ≤ v * 16; omega, by show n + 4 ≤ 60; omega⟩
          · congr 1
          · rw [Nat.pow_add, ← Nat.mul_assoc, ← HV.out]
        case measure => simp [intOf]
      · have d1 : ((v : Int) / 1152921504606846976 == 0) = false := by simp; omega
        go_wp2_with fail
        go_round
        case rel => exact ⟨4, n, v, by omega, rfl, rfl, rfl, HV.out, hlt, by show 1152921504606846976 ≤ v; omega, by show n ≤ 60; omega⟩
        case measure => simp [intOf]
    · have hlo' : 1152921504606846976 ≤ v := hlo
      have hn' : n ≤ 60 := hn
      clear hlo hn
      have ix : ∀ w, (Instr.index 106 (.agg #[.int .i64 32, .int .i64 16, .int .i64 8, .int .i64 4, .int .i64 2, .int .i64 1]) (.int .i64 4)).run Try.prog w = .ok (.int .i64 2) w := fun _ => by kernel_rfl
      by_cases hb : v < 4611686018427387904
      · have d1 : ((v : Int) / 4611686018427387904 == 0) = true := by simp; omega
        go_wp2_with fail
        go_round
        case rel =>
          refine ⟨5, n + 2, v * 4, by omega, by congr 1, ?_, rfl, ?_, by omega, by show 4611686018427387904 ≤ v * 4; omega, by show n + 2 ≤ 62; omega⟩
          · congr 1
          · rw [Nat.pow_add, ← Nat.mul_assoc, ← HV.out]
        case measure => simp [intOf]
      · have d1 : ((v : Int) / 4611686018427387904 == 0) = false := by simp; omega
        go_wp2_with fail
        go_round
        case rel => exact ⟨5, n, v, by omega, rfl, rfl, rfl, HV.out, hlt, by show 4611686018427387904 ≤ v; omega, by show n ≤ 62; omega⟩
        case measure => simp [intOf]
    · have hlo' : 4611686018427387904 ≤ v := hlo
      have hn' : n ≤ 62 := hn
      clear hlo hn
      have ix : ∀ w, (Instr.index 106 (.agg #[.int .i64 32, .int .i64 16, .int .i64 8, .int .i64 4, .int .i64 2, .int .i64 1]) (.int .i64 5)).run Try.prog w = .ok (.int .i64 1) w := fun _ => by kernel_rfl
      by_cases hb : v < 9223372036854775808
      · have d1 : ((v : Int) / 9223372036854775808 == 0) = true := by simp; omega
        go_wp2_with fail
        go_round
        case rel =>
          refine ⟨6, n + 1, v * 2, by omega, by congr 1, ?_, rfl, ?_, by omega, by show 9223372036854775808 ≤ v * 2; omega, by show n + 1 ≤ 63; omega⟩
          · congr 1
          · rw [Nat.pow_add, ← Nat.mul_assoc, ← HV.out]
        case measure => simp [intOf]
      · have d1 : ((v : Int) / 9223372036854775808 == 0) = false := by simp; omega
        go_wp2_with fail
        go_round
        case rel => exact ⟨6, n, v, by omega, rfl, rfl, rfl, HV.out, hlt, by show 9223372036854775808 ≤ v; omega, by show n ≤ 63; omega⟩
        case measure => simp [intOf]
    · have hlo' : 9223372036854775808 ≤ v := hlo
      have hn' : n ≤ 63 := hn
      clear hlo hn
      go_wp2_with fail
      go_ret
      refine ⟨xret_int ?_, HB.out⟩
      have hv := HV.out
      have hp : 2 ^ (63 - n) * 2 ^ n = 9223372036854775808 := by rw [← Nat.pow_add, show 63 - n + n = 63 by omega]
      have hq : 2 ^ (64 - n) * 2 ^ n = 18446744073709551616 := by rw [← Nat.pow_add, show 64 - n + n = 64 by omega]
      have hpos : 0 < 2 ^ n := Nat.two_pow_pos n
      have : lead u = n := lead_uniq hn' (Nat.le_of_mul_le_mul_right (by rw [hp, ← hv]; exact hlo') hpos) (Nat.lt_of_mul_lt_mul_right (a := 2 ^ n) (by rw [hq, ← hv]; exact hlt))
      rw [this]
set_option maxRecDepth 100000 in
set_option maxHeartbeats 800000 in
theorem wtrail_any (u : Nat) (hu : u < 18446744073709551616) (w : World) :
    Calls Try.prog 66 #[.int .u64 (u : Nat)] w fun e w' => e = .returned (.int .i64 (trail u : Nat)) ∧ Below w.heap.size w w' := by
  by_cases h0 : u = 0
  · subst h0
    go_enter Try.func66, Try.ntmps66
    go_wp2
    go_ret
    exact ⟨rfl, Below.refl _ _⟩
  obtain ⟨ht, m, hm⟩ := trail_spec (by omega) hu
  clear hm
  have d0 : ((u : Int) == 0) = false := by simp; omega
  have hlow : bits .and .u64 (u : Int) (IntKind.u64.wrap (-(u : Int))) = ((2 ^ trail u : Nat) : Int) := by
    rw [IntKind.wrap_u64, show -(u : Int) % 18446744073709551616 = ((18446744073709551616 - u : Nat) : Int) by omega, u64_and_nat _ _ hu (by omega), low_bit (by omega) hu]
  have hc := wlead_any (2 ^ trail u) (show 2 ^ trail u < 2 ^ 64 from Nat.pow_lt_pow_right (by omega) (by omega))
  rw [lead_pow ht] at hc
  have HT := Lib.hid (And.intro hu h0)
  clear hu h0
  go_enter Try.func66, Try.ntmps66
  go_wp2_with fail
  rw [show ((2 : Int) ^ trail u) = ((2 ^ trail u : Nat) : Int) by simp]
  refine (hc _).mono ?_
  rintro e w1 ⟨rfl, hb1⟩
  have HB := Lib.hid hb1
  clear hb1
  go_wp2_with fail
  go_ret
  exact ⟨xret_int (by first | omega | (simp only [IntKind.wrap_i64]; omega)), HB.out⟩
end Go.Proofs.Ytopbbicjbjmdnaa.X
namespace Go.Proofs.Ytopbbicjbjmdnaa.X
open Go.RowKit
set_option linter.unusedVariables false
set_option linter.unusedSimpArgs false
theorem xbox_below {w w1 : World} {t : TypeId} {cs : Array Value} (hb : Below (w.alloc (.cells cs t)).heap.size (w.alloc (.cells cs t)) w1) : Blk w1 w.heap.size t cs ∧ Below w.heap.size w w1 :=
  ⟨(Blk.fresh w t cs).below hb (by simp), ((Below.refl w.heap.size w).alloc (Nat.le_refl _) _).trans (hb.mono (by simp))⟩
theorem _root_.Go.Proofs.Ytopbbicjbjmdnaa.Blk.set2 {w : World} {g : Nat} {t : TypeId} {a b : Value} (h : Blk w g t #[a, b]) (x y : Value) : Blk ((w.setCell ⟨g, 0, none⟩ x).setCell ⟨g, 1, none⟩ y) g t #[x, y] := by
  simpa using (h.set 0 x).set 1 y
theorem below_set2 {B : Nat} {w w' : World} {g : Nat} (h : Below B w w') (hg : B ≤ g) (x y : Value) : Below B w ((w'.setCell ⟨g, 0, none⟩ x).setCell ⟨g, 1, none⟩ y) :=
  (h.setCell (by simpa using hg) _).setCell (by simpa using hg) _
set_option maxHeartbeats 400000 in
theorem none_any (w : World) : Calls Try.prog 47 #[] w fun e w' => e = .returned (.agg #[.int .i64 (-1), .int .i64 (-1)]) ∧ Below w.heap.size w w' := by
  go_enter Try.func47, Try.ntmps47
  go_wp2
  exact bodyPost_ret (v := .agg #[.int .i64 (-1), .int .i64 (-1)]) (by simp [results, Try.results47, go_sem]) rfl ⟨rfl, (Below.refl _ _).alloc (Nat.le_refl _) _⟩
set_option maxHeartbeats 400000 in
theorem inside_any (l t : Nat) (h : l + t ≤ 64) (w : World) : Calls Try.prog 50 #[.agg #[.int .i64 (l : Nat), .int .i64 (t : Nat)]] w fun e w' => e = .returned (.int .i64 ((64 - l - t : Nat) : Int)) ∧ Below w.heap.size w w' := by
  have bel := ((Below.refl w.heap.size w).alloc (Nat.le_refl _) (.cells #[.int .i64 (l : Nat), .int .i64 (t : Nat)] 85))
  have HB := Lib.hid bel
  clear bel
  go_enter Try.func50, Try.ntmps50
  go_wp2_with fail
  go_ret
  exact ⟨xret_int (by omega), HB.out⟩
set_option maxRecDepth 100000 in
set_option maxHeartbeats 800000 in
theorem of_any (u : Nat) (hu : u < 18446744073709551616) (w : World) : Calls Try.prog 48 #[.int .u64 (u : Nat)] w fun e w' => e = .returned (.agg #[.int .i64 (lead u : Nat), .int .i64 (trail u : Nat)]) ∧ Below w.heap.size w w' := by
  have HU := Lib.hid hu
  clear hu
  obtain ⟨x, hx⟩ : ∃ x, x = w.heap.size := ⟨_, rfl⟩
  have HX := Lib.hid hx
  go_enter Try.func48, Try.ntmps48
  go_wp2_with fail
  refine (wlead_any u HU.out _).mono ?_
  rintro e w1 ⟨rfl, hb1⟩
  obtain ⟨k1, g1⟩ := xbox_below hb1
  clear hb1
  have H1 := Lib.hid (And.intro k1 g1)
  clear k1 g1
  go_wp2_with fail
  refine (wtrail_any u HU.out _).mono ?_
  rintro e w2 ⟨rfl, hb2⟩
  have b0 := H1.out.1.below hb2 H1.out.1.lt
  have bel := H1.out.2.trans (hb2.mono H1.out.2.size)
  rw [← hx] at b0
  rw [← hx]
  have f0 := b0.frozen
  have p0 := b0.cell 0
  have p1 := b0.cell 1
  simp at p0 p1
  have HB := Lib.hid (And.intro b0 (And.intro bel hx))
  clear hb2 b0 bel hx
  go_wp2_with fail
  have b2 := HB.out.1.set2 (.int .i64 (lead u : Nat)) (.int .i64 (trail u : Nat))
  have bel2 := below_set2 (g := x) HB.out.2.1 (by have := HB.out.2.2; omega) (.int .i64 (lead u : Nat)) (.int .i64 (trail u : Nat))
  generalize ((w2.setCell ⟨x, 0, none⟩ (.int .i64 (lead u : Nat))).setCell ⟨x, 1, none⟩ (.int .i64 (trail u : Nat))) = w3 at b2 bel2 ⊢
  have r0 := b2.cell 0
  have r1 := b2.cell 1
  simp at r0 r1
  exact bodyPost_ret (v := .agg #[.int .i64 (lead u : Nat), .int .i64 (trail u : Nat)]) (by simp [results, Try.results48, go_sem, r0, r1]) rfl ⟨rfl, bel2⟩
/-- What has reads: both windows. -/
def WR (x : Nat) (l t y z : Int) (w : World) : Prop :=
  w.cell? ⟨x, 0, none⟩ = some (.int .i64 l) ∧ w.cell? ⟨x, 1, none⟩ = some (.int .i64 t) ∧ w.cell? ⟨x + 1, 0, none⟩ = some (.int .i64 y) ∧ w.cell? ⟨x + 1, 1, none⟩ = some (.int .i64 z)
theorem wr_of {x : Nat} {l t y z : Int} {w : World} {T : TypeId} (h : Blk w x T #[.int .i64 l, .int .i64 t]) (h' : Blk w (x + 1) T #[.int .i64 y, .int .i64 z]) : WR x l t y z w := by
  have p0 := h.cell 0
  have p1 := h.cell 1
  have q0 := h'.cell 0
  have q1 := h'.cell 1
  simp at p0 p1 q0 q1
  exact ⟨p0, p1, q0, q1⟩
set_option maxRecDepth 100000 in
set_option maxHeartbeats 800000 in
theorem has_none (y z : Int) (w : World) : Calls Try.prog 49 #[.agg #[.int .i64 (-1), .int .i64 (-1)], .agg #[.int .i64 y, .int .i64 z]] w fun e w' => e = .returned (.bool false) ∧ Below w.heap.size w w' := by
  obtain ⟨x, hx⟩ : ∃ x, x = w.heap.size := ⟨_, rfl⟩
  obtain ⟨W, hW⟩ : ∃ W, W = (w.alloc (.cells #[.int .i64 (-1), .int .i64 (-1)] 85)).alloc (.cells #[.int .i64 y, .int .i64 z] 85) := ⟨_, rfl⟩
  have b0 : Blk W x 85 #[.int .i64 (-1), .int .i64 (-1)] := by rw [hx, hW]; exact (Blk.fresh w _ _).alloc _
  have b1 : Blk W (x + 1) 85 #[.int .i64 y, .int .i64 z] := by
    rw [hx, hW]
    have h := Blk.fresh (w.alloc (.cells #[.int .i64 (-1), .int .i64 (-1)] 85)) 85 #[.int .i64 y, .int .i64 z]
    simpa using h
  have bel : Below x w W := by rw [hx, hW]; exact ((Below.refl w.heap.size w).alloc (Nat.le_refl _) _).alloc (by simp) _
  have HB := Lib.hid (And.intro b0 (And.intro b1 (And.intro bel hx)))
  clear b0 b1 bel
  go_enter Try.func49, Try.ntmps49
  go_wp2_with fail
  rw [← hW, ← hx]
  clear hW hx
  have hS : (WR x (-1) (-1) y z) (W.drew) := wr_of HB.out.1.drew HB.out.2.1.drew
  refine reg_start (WR x (-1) (-1) y z) (by kernel_rfl) hS ?_
  refine reg_take (i := 0) (v := ?_) rfl (by kernel_rfl) (by kernel_rfl) (by kernel_rfl) (fun _ _ _ h => h) (Or.inl ⟨by kernel_rfl, ?_⟩) hS ?_
  rotate_left
  · (intro w' hSw; obtain ⟨p0, p1, q0, q1⟩ := hSw; go_simp <;> with_reducible rfl)
  try simp only [List.getElem_toArray, List.getElem_cons_succ, List.getElem_cons_zero, Act.put, List.setIfInBounds_toArray, List.set_cons_zero, List.set_cons_succ]
  refine reg_call (i := 1) rfl (by kernel_rfl) (fun K hK => ?_)
  have HK := Lib.hid hK
  clear hK
  go_simp
  refine (none_any W.drew).mono ?_
  rintro e w1 ⟨rfl, hb1⟩
  have r1 : WR x (-1) (-1) y z w1 := wr_of (HB.out.1.drew.below hb1 HB.out.1.drew.lt) (HB.out.2.1.drew.below hb1 HB.out.2.1.drew.lt)
  have bel1 : Below w.heap.size w w1 := by
    have h := HB.out.2.2.1.drew
    rw [HB.out.2.2.2] at h
    exact h.trans (hb1.mono h.size)
  have H1 := Lib.hid (And.intro r1 bel1)
  clear hb1 r1 bel1
  go_wp2_with fail
  refine HK.out.to (WR x (-1) (-1) y z) (fun _ h => h) (H1.out.1) ?_
  clear HK hS
  have hS : (WR x (-1) (-1) y z) (w1) := H1.out.1
  try simp only [List.getElem_toArray, List.getElem_cons_succ, List.getElem_cons_zero, Act.put, List.setIfInBounds_toArray, List.set_cons_zero, List.set_cons_succ]
  refine reg_take (i := 2) (v := ?_) rfl (by kernel_rfl) (by kernel_rfl) (by kernel_rfl) (fun _ _ _ h => h) (Or.inl ⟨by kernel_rfl, ?_⟩) hS ?_
  rotate_left
  · (intro w' hSw; go_simp <;> with_reducible rfl)
  try simp only [List.getElem_toArray, List.getElem_cons_succ, List.getElem_cons_zero, Act.put, List.setIfInBounds_toArray, List.set_cons_zero, List.set_cons_succ]
  refine reg_take (i := 3) (v := ?_) rfl (by kernel_rfl) (by kernel_rfl) (by kernel_rfl) (fun _ _ _ h => h) (Or.inl ⟨by kernel_rfl, ?_⟩) hS ?_
  rotate_left
  · (intro w' hSw; go_simp <;> with_reducible rfl)
  try simp only [List.getElem_toArray, List.getElem_cons_succ, List.getElem_cons_zero, Act.put, List.setIfInBounds_toArray, List.set_cons_zero, List.set_cons_succ]
  refine reg_take (i := 4) (v := undef) rfl (by kernel_rfl) (by kernel_rfl) (by kernel_rfl) (fun _ _ _ h => h) (Or.inr ⟨by kernel_rfl, rfl⟩) hS ?_
  try simp only [List.getElem_toArray, List.getElem_cons_succ, List.getElem_cons_zero, Act.put, List.setIfInBounds_toArray, List.set_cons_zero, List.set_cons_succ]
  refine reg_take (i := 5) (v := undef) rfl (by kernel_rfl) (by kernel_rfl) (by kernel_rfl) (fun _ _ _ h => h) (Or.inr ⟨by kernel_rfl, rfl⟩) hS ?_
  try simp only [List.getElem_toArray, List.getElem_cons_succ, List.getElem_cons_zero, Act.put, List.setIfInBounds_toArray, List.set_cons_zero, List.set_cons_succ]
  refine reg_take (i := 6) (v := undef) rfl (by kernel_rfl) (by kernel_rfl) (by kernel_rfl) (fun _ _ _ h => h) (Or.inr ⟨by kernel_rfl, rfl⟩) hS ?_
  try simp only [List.getElem_toArray, List.getElem_cons_succ, List.getElem_cons_zero, Act.put, List.setIfInBounds_toArray, List.set_cons_zero, List.set_cons_succ]
  refine reg_take (i := 7) (v := undef) rfl (by kernel_rfl) (by kernel_rfl) (by kernel_rfl) (fun _ _ _ h => h) (Or.inr ⟨by kernel_rfl, rfl⟩) hS ?_
  try simp only [List.getElem_toArray, List.getElem_cons_succ, List.getElem_cons_zero, Act.put, List.setIfInBounds_toArray, List.set_cons_zero, List.set_cons_succ]
  refine reg_take (i := 8) (v := undef) rfl (by kernel_rfl) (by kernel_rfl) (by kernel_rfl) (fun _ _ _ h => h) (Or.inr ⟨by kernel_rfl, rfl⟩) hS ?_
  try simp only [List.getElem_toArray, List.getElem_cons_succ, List.getElem_cons_zero, Act.put, List.setIfInBounds_toArray, List.set_cons_zero, List.set_cons_succ]
  refine reg_take (i := 9) (v := ?_) rfl (by kernel_rfl) (by kernel_rfl) (by kernel_rfl) (fun _ _ _ h => h) (Or.inl ⟨by kernel_rfl, ?_⟩) hS ?_
  rotate_left
  · (intro w' hSw; go_simp <;> with_reducible rfl)
  try simp only [List.getElem_toArray, List.getElem_cons_succ, List.getElem_cons_zero, Act.put, List.setIfInBounds_toArray, List.set_cons_zero, List.set_cons_succ]
  refine reg_take (i := 10) (v := ?_) rfl (by kernel_rfl) (by kernel_rfl) (by kernel_rfl) (fun _ _ _ h => h) (Or.inl ⟨by kernel_rfl, ?_⟩) hS ?_
  rotate_left
  · (intro w' hSw; go_simp <;> with_reducible rfl)
  try simp only [List.getElem_toArray, List.getElem_cons_succ, List.getElem_cons_zero, Act.put, List.setIfInBounds_toArray, List.set_cons_zero, List.set_cons_succ]
  refine reg_take (i := 11) (v := undef) rfl (by kernel_rfl) (by kernel_rfl) (by kernel_rfl) (fun _ _ _ h => h) (Or.inr ⟨by kernel_rfl, rfl⟩) hS ?_
  try simp only [List.getElem_toArray, List.getElem_cons_succ, List.getElem_cons_zero, Act.put, List.setIfInBounds_toArray, List.set_cons_zero, List.set_cons_succ]
  refine reg_take (i := 12) (v := undef) rfl (by kernel_rfl) (by kernel_rfl) (by kernel_rfl) (fun _ _ _ h => h) (Or.inr ⟨by kernel_rfl, rfl⟩) hS ?_
  try simp only [List.getElem_toArray, List.getElem_cons_succ, List.getElem_cons_zero, Act.put, List.setIfInBounds_toArray, List.set_cons_zero, List.set_cons_succ]
  refine reg_take (i := 13) (v := undef) rfl (by kernel_rfl) (by kernel_rfl) (by kernel_rfl) (fun _ _ _ h => h) (Or.inr ⟨by kernel_rfl, rfl⟩) hS ?_
  try simp only [List.getElem_toArray, List.getElem_cons_succ, List.getElem_cons_zero, Act.put, List.setIfInBounds_toArray, List.set_cons_zero, List.set_cons_succ]
  refine reg_take (i := 14) (v := undef) rfl (by kernel_rfl) (by kernel_rfl) (by kernel_rfl) (fun _ _ _ h => h) (Or.inr ⟨by kernel_rfl, rfl⟩) hS ?_
  try simp only [List.getElem_toArray, List.getElem_cons_succ, List.getElem_cons_zero, Act.put, List.setIfInBounds_toArray, List.set_cons_zero, List.set_cons_succ]
  refine reg_take (i := 15) (v := undef) rfl (by kernel_rfl) (by kernel_rfl) (by kernel_rfl) (fun _ _ _ h => h) (Or.inr ⟨by kernel_rfl, rfl⟩) hS ?_
  try simp only [List.getElem_toArray, List.getElem_cons_succ, List.getElem_cons_zero, Act.put, List.setIfInBounds_toArray, List.set_cons_zero, List.set_cons_succ]
  refine reg_take (i := 16) (v := ?_) rfl (by kernel_rfl) (by kernel_rfl) (by kernel_rfl) (fun _ _ _ h => h) (Or.inl ⟨by kernel_rfl, ?_⟩) hS ?_
  rotate_left
  · (intro w' hSw; go_simp <;> with_reducible rfl)
  try simp only [List.getElem_toArray, List.getElem_cons_succ, List.getElem_cons_zero, Act.put, List.setIfInBounds_toArray, List.set_cons_zero, List.set_cons_succ]
  refine reg_take (i := 17) (v := ?_) rfl (by kernel_rfl) (by kernel_rfl) (by kernel_rfl) (fun _ _ _ h => h) (Or.inl ⟨by kernel_rfl, ?_⟩) hS ?_
  rotate_left
  · (intro w' hSw; go_simp <;> with_reducible rfl)
  try simp only [List.getElem_toArray, List.getElem_cons_succ, List.getElem_cons_zero, Act.put, List.setIfInBounds_toArray, List.set_cons_zero, List.set_cons_succ]
  refine wpAnyH_done (by kernel_rfl) ?_ _
  try simp only [List.getElem_toArray, List.getElem_cons_succ, List.getElem_cons_zero]
  try simp only [List.getElem_toArray, List.getElem_cons_succ, List.getElem_cons_zero, Act.put, List.setIfInBounds_toArray, List.set_cons_zero, List.set_cons_succ]
  go_wp2_with fail
  go_ret
  exact ⟨rfl, H1.out.2⟩
set_option maxRecDepth 100000 in
set_option maxHeartbeats 800000 in
theorem has_win (l t : Nat) (y z : Int) (w : World) : Calls Try.prog 49 #[.agg #[.int .i64 (l : Nat), .int .i64 (t : Nat)], .agg #[.int .i64 y, .int .i64 z]] w fun e w' => e = .returned (.bool (decide ((l : Int) ≤ y) && decide ((t : Int) ≤ z))) ∧ Below w.heap.size w w' := by
  have hl : ¬ ((l : Int) = -1) := by omega
  obtain ⟨x, hx⟩ : ∃ x, x = w.heap.size := ⟨_, rfl⟩
  obtain ⟨W, hW⟩ : ∃ W, W = (w.alloc (.cells #[.int .i64 (l : Nat), .int .i64 (t : Nat)] 85)).alloc (.cells #[.int .i64 y, .int .i64 z] 85) := ⟨_, rfl⟩
  have b0 : Blk W x 85 #[.int .i64 (l : Nat), .int .i64 (t : Nat)] := by rw [hx, hW]; exact (Blk.fresh w _ _).alloc _
  have b1 : Blk W (x + 1) 85 #[.int .i64 y, .int .i64 z] := by
    rw [hx, hW]
    have h := Blk.fresh (w.alloc (.cells #[.int .i64 (l : Nat), .int .i64 (t : Nat)] 85)) 85 #[.int .i64 y, .int .i64 z]
    simpa using h
  have bel : Below x w W := by rw [hx, hW]; exact ((Below.refl w.heap.size w).alloc (Nat.le_refl _) _).alloc (by simp) _
  have HB := Lib.hid (And.intro b0 (And.intro b1 (And.intro bel hx)))
  clear b0 b1 bel
  go_enter Try.func49, Try.ntmps49
  go_wp2_with fail
  rw [← hW, ← hx]
  clear hW hx
  have hS : (WR x (l : Nat) (t : Nat) y z) (W.drew) := wr_of HB.out.1.drew HB.out.2.1.drew
  refine reg_start (WR x (l : Nat) (t : Nat) y z) (by kernel_rfl) hS ?_
  refine reg_take (i := 0) (v := ?_) rfl (by kernel_rfl) (by kernel_rfl) (by kernel_rfl) (fun _ _ _ h => h) (Or.inl ⟨by kernel_rfl, ?_⟩) hS ?_
  rotate_left
  · (intro w' hSw; obtain ⟨p0, p1, q0, q1⟩ := hSw; go_simp <;> with_reducible rfl)
  try simp only [List.getElem_toArray, List.getElem_cons_succ, List.getElem_cons_zero, Act.put, List.setIfInBounds_toArray, List.set_cons_zero, List.set_cons_succ]
  refine reg_call (i := 1) rfl (by kernel_rfl) (fun K hK => ?_)
  have HK := Lib.hid hK
  clear hK
  go_simp
  refine (none_any W.drew).mono ?_
  rintro e w1 ⟨rfl, hb1⟩
  have r1 : WR x (l : Nat) (t : Nat) y z w1 := wr_of (HB.out.1.drew.below hb1 HB.out.1.drew.lt) (HB.out.2.1.drew.below hb1 HB.out.2.1.drew.lt)
  have bel1 : Below w.heap.size w w1 := by
    have h := HB.out.2.2.1.drew
    rw [HB.out.2.2.2] at h
    exact h.trans (hb1.mono h.size)
  have H1 := Lib.hid (And.intro r1 bel1)
  clear hb1 r1 bel1
  go_wp2_with fail
  refine HK.out.to (WR x (l : Nat) (t : Nat) y z) (fun _ h => h) (H1.out.1) ?_
  clear HK hS
  have hS : (WR x (l : Nat) (t : Nat) y z) (w1) := H1.out.1
  try simp only [List.getElem_toArray, List.getElem_cons_succ, List.getElem_cons_zero, Act.put, List.setIfInBounds_toArray, List.set_cons_zero, List.set_cons_succ]
  refine reg_take (i := 2) (v := ?_) rfl (by kernel_rfl) (by kernel_rfl) (by kernel_rfl) (fun _ _ _ h => h) (Or.inl ⟨by kernel_rfl, ?_⟩) hS ?_
  rotate_left
  · (intro w' hSw; go_simp <;> with_reducible rfl)
  try simp only [List.getElem_toArray, List.getElem_cons_succ, List.getElem_cons_zero, Act.put, List.setIfInBounds_toArray, List.set_cons_zero, List.set_cons_succ]
  refine reg_take (i := 3) (v := ?_) rfl (by kernel_rfl) (by kernel_rfl) (by kernel_rfl) (fun _ _ _ h => h) (Or.inl ⟨by kernel_rfl, ?_⟩) hS ?_
  rotate_left
  · (intro w' hSw; go_simp <;> with_reducible rfl)
  try simp only [List.getElem_toArray, List.getElem_cons_succ, List.getElem_cons_zero, Act.put, List.setIfInBounds_toArray, List.set_cons_zero, List.set_cons_succ]
  by_cases h1 : (l : Int) ≤ y
  · have d1 : decide ((l : Int) ≤ y) = true := by simp [h1]
    clear h1
    refine reg_take (i := 4) (v := ?_) rfl (by kernel_rfl) (by kernel_rfl) (by kernel_rfl) (fun _ _ _ h => h) (Or.inl ⟨by kernel_rfl, ?_⟩) hS ?_
    rotate_left
    · (intro w' hSw; obtain ⟨p0, p1, q0, q1⟩ := hSw; go_simp <;> with_reducible rfl)
    try simp only [List.getElem_toArray, List.getElem_cons_succ, List.getElem_cons_zero, Act.put, List.setIfInBounds_toArray, List.set_cons_zero, List.set_cons_succ]
    refine reg_take (i := 5) (v := ?_) rfl (by kernel_rfl) (by kernel_rfl) (by kernel_rfl) (fun _ _ _ h => h) (Or.inl ⟨by kernel_rfl, ?_⟩) hS ?_
    rotate_left
    · (intro w' hSw; obtain ⟨p0, p1, q0, q1⟩ := hSw; go_simp <;> with_reducible rfl)
    try simp only [List.getElem_toArray, List.getElem_cons_succ, List.getElem_cons_zero, Act.put, List.setIfInBounds_toArray, List.set_cons_zero, List.set_cons_succ]
    refine reg_take (i := 6) (v := ?_) rfl (by kernel_rfl) (by kernel_rfl) (by kernel_rfl) (fun _ _ _ h => h) (Or.inl ⟨by kernel_rfl, ?_⟩) hS ?_
    rotate_left
    · (intro w' hSw; obtain ⟨p0, p1, q0, q1⟩ := hSw; go_simp <;> with_reducible rfl)
    try simp only [List.getElem_toArray, List.getElem_cons_succ, List.getElem_cons_zero, Act.put, List.setIfInBounds_toArray, List.set_cons_zero, List.set_cons_succ]
    refine reg_take (i := 7) (v := ?_) rfl (by kernel_rfl) (by kernel_rfl) (by kernel_rfl) (fun _ _ _ h => h) (Or.inl ⟨by kernel_rfl, ?_⟩) hS ?_
    rotate_left
    · (intro w' hSw; obtain ⟨p0, p1, q0, q1⟩ := hSw; go_simp <;> with_reducible rfl)
    try simp only [List.getElem_toArray, List.getElem_cons_succ, List.getElem_cons_zero, Act.put, List.setIfInBounds_toArray, List.set_cons_zero, List.set_cons_succ]
    refine reg_take (i := 8) (v := ?_) rfl (by kernel_rfl) (by kernel_rfl) (by kernel_rfl) (fun _ _ _ h => h) (Or.inl ⟨by kernel_rfl, ?_⟩) hS ?_
    rotate_left
    · (intro w' hSw; obtain ⟨p0, p1, q0, q1⟩ := hSw; go_simp <;> with_reducible rfl)
    try simp only [List.getElem_toArray, List.getElem_cons_succ, List.getElem_cons_zero, Act.put, List.setIfInBounds_toArray, List.set_cons_zero, List.set_cons_succ]
    refine reg_take (i := 9) (v := ?_) rfl (by kernel_rfl) (by kernel_rfl) (by kernel_rfl) (fun _ _ _ h => h) (Or.inl ⟨by kernel_rfl, ?_⟩) hS ?_
    rotate_left
    · (intro w' hSw; go_simp <;> with_reducible rfl)
    try simp only [List.getElem_toArray, List.getElem_cons_succ, List.getElem_cons_zero, Act.put, List.setIfInBounds_toArray, List.set_cons_zero, List.set_cons_succ]
    refine reg_take (i := 10) (v := ?_) rfl (by kernel_rfl) (by kernel_rfl) (by kernel_rfl) (fun _ _ _ h => h) (Or.inl ⟨by kernel_rfl, ?_⟩) hS ?_
    rotate_left
    · (intro w' hSw; go_simp <;> with_reducible rfl)
    try simp only [List.getElem_toArray, List.getElem_cons_succ, List.getElem_cons_zero, Act.put, List.setIfInBounds_toArray, List.set_cons_zero, List.set_cons_succ]
    refine reg_take (i := 11) (v := ?_) rfl (by kernel_rfl) (by kernel_rfl) (by kernel_rfl) (fun _ _ _ h => h) (Or.inl ⟨by kernel_rfl, ?_⟩) hS ?_
    rotate_left
    · (intro w' hSw; obtain ⟨p0, p1, q0, q1⟩ := hSw; go_simp <;> with_reducible rfl)
    try simp only [List.getElem_toArray, List.getElem_cons_succ, List.getElem_cons_zero, Act.put, List.setIfInBounds_toArray, List.set_cons_zero, List.set_cons_succ]
    refine reg_take (i := 12) (v := ?_) rfl (by kernel_rfl) (by kernel_rfl) (by kernel_rfl) (fun _ _ _ h => h) (Or.inl ⟨by kernel_rfl, ?_⟩) hS ?_
    rotate_left
    · (intro w' hSw; obtain ⟨p0, p1, q0, q1⟩ := hSw; go_simp <;> with_reducible rfl)
    try simp only [List.getElem_toArray, List.getElem_cons_succ, List.getElem_cons_zero, Act.put, List.setIfInBounds_toArray, List.set_cons_zero, List.set_cons_succ]
    refine reg_take (i := 13) (v := ?_) rfl (by kernel_rfl) (by kernel_rfl) (by kernel_rfl) (fun _ _ _ h => h) (Or.inl ⟨by kernel_rfl, ?_⟩) hS ?_
    rotate_left
    · (intro w' hSw; obtain ⟨p0, p1, q0, q1⟩ := hSw; go_simp <;> with_reducible rfl)
    try simp only [List.getElem_toArray, List.getElem_cons_succ, List.getElem_cons_zero, Act.put, List.setIfInBounds_toArray, List.set_cons_zero, List.set_cons_succ]
    refine reg_take (i := 14) (v := ?_) rfl (by kernel_rfl) (by kernel_rfl) (by kernel_rfl) (fun _ _ _ h => h) (Or.inl ⟨by kernel_rfl, ?_⟩) hS ?_
    rotate_left
    · (intro w' hSw; obtain ⟨p0, p1, q0, q1⟩ := hSw; go_simp <;> with_reducible rfl)
    try simp only [List.getElem_toArray, List.getElem_cons_succ, List.getElem_cons_zero, Act.put, List.setIfInBounds_toArray, List.set_cons_zero, List.set_cons_succ]
    refine reg_take (i := 15) (v := ?_) rfl (by kernel_rfl) (by kernel_rfl) (by kernel_rfl) (fun _ _ _ h => h) (Or.inl ⟨by kernel_rfl, ?_⟩) hS ?_
    rotate_left
    · (intro w' hSw; obtain ⟨p0, p1, q0, q1⟩ := hSw; go_simp <;> with_reducible rfl)
    try simp only [List.getElem_toArray, List.getElem_cons_succ, List.getElem_cons_zero, Act.put, List.setIfInBounds_toArray, List.set_cons_zero, List.set_cons_succ]
    refine reg_take (i := 16) (v := ?_) rfl (by kernel_rfl) (by kernel_rfl) (by kernel_rfl) (fun _ _ _ h => h) (Or.inl ⟨by kernel_rfl, ?_⟩) hS ?_
    rotate_left
    · (intro w' hSw; go_simp <;> with_reducible rfl)
    try simp only [List.getElem_toArray, List.getElem_cons_succ, List.getElem_cons_zero, Act.put, List.setIfInBounds_toArray, List.set_cons_zero, List.set_cons_succ]
    refine reg_take (i := 17) (v := ?_) rfl (by kernel_rfl) (by kernel_rfl) (by kernel_rfl) (fun _ _ _ h => h) (Or.inl ⟨by kernel_rfl, ?_⟩) hS ?_
    rotate_left
    · (intro w' hSw; go_simp <;> with_reducible rfl)
    try simp only [List.getElem_toArray, List.getElem_cons_succ, List.getElem_cons_zero, Act.put, List.setIfInBounds_toArray, List.set_cons_zero, List.set_cons_succ]
    refine wpAnyH_done (by kernel_rfl) ?_ _
    try simp only [List.getElem_toArray, List.getElem_cons_succ, List.getElem_cons_zero]
    try simp only [List.getElem_toArray, List.getElem_cons_succ, List.getElem_cons_zero, Act.put, List.setIfInBounds_toArray, List.set_cons_zero, List.set_cons_succ]
    go_wp2_with fail
    go_ret
    exact ⟨by rw [d1, Bool.true_and]; rfl, H1.out.2⟩
  · have d1 : decide ((l : Int) ≤ y) = false := by simp; omega
    clear h1
    refine reg_take (i := 4) (v := ?_) rfl (by kernel_rfl) (by kernel_rfl) (by kernel_rfl) (fun _ _ _ h => h) (Or.inl ⟨by kernel_rfl, ?_⟩) hS ?_
    rotate_left
    · (intro w' hSw; obtain ⟨p0, p1, q0, q1⟩ := hSw; go_simp <;> with_reducible rfl)
    try simp only [List.getElem_toArray, List.getElem_cons_succ, List.getElem_cons_zero, Act.put, List.setIfInBounds_toArray, List.set_cons_zero, List.set_cons_succ]
    refine reg_take (i := 5) (v := ?_) rfl (by kernel_rfl) (by kernel_rfl) (by kernel_rfl) (fun _ _ _ h => h) (Or.inl ⟨by kernel_rfl, ?_⟩) hS ?_
    rotate_left
    · (intro w' hSw; obtain ⟨p0, p1, q0, q1⟩ := hSw; go_simp <;> with_reducible rfl)
    try simp only [List.getElem_toArray, List.getElem_cons_succ, List.getElem_cons_zero, Act.put, List.setIfInBounds_toArray, List.set_cons_zero, List.set_cons_succ]
    refine reg_take (i := 6) (v := ?_) rfl (by kernel_rfl) (by kernel_rfl) (by kernel_rfl) (fun _ _ _ h => h) (Or.inl ⟨by kernel_rfl, ?_⟩) hS ?_
    rotate_left
    · (intro w' hSw; obtain ⟨p0, p1, q0, q1⟩ := hSw; go_simp <;> with_reducible rfl)
    try simp only [List.getElem_toArray, List.getElem_cons_succ, List.getElem_cons_zero, Act.put, List.setIfInBounds_toArray, List.set_cons_zero, List.set_cons_succ]
    refine reg_take (i := 7) (v := ?_) rfl (by kernel_rfl) (by kernel_rfl) (by kernel_rfl) (fun _ _ _ h => h) (Or.inl ⟨by kernel_rfl, ?_⟩) hS ?_
    rotate_left
    · (intro w' hSw; obtain ⟨p0, p1, q0, q1⟩ := hSw; go_simp <;> with_reducible rfl)
    try simp only [List.getElem_toArray, List.getElem_cons_succ, List.getElem_cons_zero, Act.put, List.setIfInBounds_toArray, List.set_cons_zero, List.set_cons_succ]
    refine reg_take (i := 8) (v := ?_) rfl (by kernel_rfl) (by kernel_rfl) (by kernel_rfl) (fun _ _ _ h => h) (Or.inl ⟨by kernel_rfl, ?_⟩) hS ?_
    rotate_left
    · (intro w' hSw; obtain ⟨p0, p1, q0, q1⟩ := hSw; go_simp <;> with_reducible rfl)
    try simp only [List.getElem_toArray, List.getElem_cons_succ, List.getElem_cons_zero, Act.put, List.setIfInBounds_toArray, List.set_cons_zero, List.set_cons_succ]
    refine reg_take (i := 9) (v := ?_) rfl (by kernel_rfl) (by kernel_rfl) (by kernel_rfl) (fun _ _ _ h => h) (Or.inl ⟨by kernel_rfl, ?_⟩) hS ?_
    rotate_left
    · (intro w' hSw; go_simp <;> with_reducible rfl)
    try simp only [List.getElem_toArray, List.getElem_cons_succ, List.getElem_cons_zero, Act.put, List.setIfInBounds_toArray, List.set_cons_zero, List.set_cons_succ]
    refine reg_take (i := 10) (v := ?_) rfl (by kernel_rfl) (by kernel_rfl) (by kernel_rfl) (fun _ _ _ h => h) (Or.inl ⟨by kernel_rfl, ?_⟩) hS ?_
    rotate_left
    · (intro w' hSw; go_simp <;> with_reducible rfl)
    try simp only [List.getElem_toArray, List.getElem_cons_succ, List.getElem_cons_zero, Act.put, List.setIfInBounds_toArray, List.set_cons_zero, List.set_cons_succ]
    refine reg_take (i := 11) (v := undef) rfl (by kernel_rfl) (by kernel_rfl) (by kernel_rfl) (fun _ _ _ h => h) (Or.inr ⟨by kernel_rfl, rfl⟩) hS ?_
    try simp only [List.getElem_toArray, List.getElem_cons_succ, List.getElem_cons_zero, Act.put, List.setIfInBounds_toArray, List.set_cons_zero, List.set_cons_succ]
    refine reg_take (i := 12) (v := undef) rfl (by kernel_rfl) (by kernel_rfl) (by kernel_rfl) (fun _ _ _ h => h) (Or.inr ⟨by kernel_rfl, rfl⟩) hS ?_
    try simp only [List.getElem_toArray, List.getElem_cons_succ, List.getElem_cons_zero, Act.put, List.setIfInBounds_toArray, List.set_cons_zero, List.set_cons_succ]
    refine reg_take (i := 13) (v := undef) rfl (by kernel_rfl) (by kernel_rfl) (by kernel_rfl) (fun _ _ _ h => h) (Or.inr ⟨by kernel_rfl, rfl⟩) hS ?_
    try simp only [List.getElem_toArray, List.getElem_cons_succ, List.getElem_cons_zero, Act.put, List.setIfInBounds_toArray, List.set_cons_zero, List.set_cons_succ]
    refine reg_take (i := 14) (v := undef) rfl (by kernel_rfl) (by kernel_rfl) (by kernel_rfl) (fun _ _ _ h => h) (Or.inr ⟨by kernel_rfl, rfl⟩) hS ?_
    try simp only [List.getElem_toArray, List.getElem_cons_succ, List.getElem_cons_zero, Act.put, List.setIfInBounds_toArray, List.set_cons_zero, List.set_cons_succ]
    refine reg_take (i := 15) (v := undef) rfl (by kernel_rfl) (by kernel_rfl) (by kernel_rfl) (fun _ _ _ h => h) (Or.inr ⟨by kernel_rfl, rfl⟩) hS ?_
    try simp only [List.getElem_toArray, List.getElem_cons_succ, List.getElem_cons_zero, Act.put, List.setIfInBounds_toArray, List.set_cons_zero, List.set_cons_succ]
    refine reg_take (i := 16) (v := ?_) rfl (by kernel_rfl) (by kernel_rfl) (by kernel_rfl) (fun _ _ _ h => h) (Or.inl ⟨by kernel_rfl, ?_⟩) hS ?_
    rotate_left
    · (intro w' hSw; go_simp <;> with_reducible rfl)
    try simp only [List.getElem_toArray, List.getElem_cons_succ, List.getElem_cons_zero, Act.put, List.setIfInBounds_toArray, List.set_cons_zero, List.set_cons_succ]
    refine reg_take (i := 17) (v := ?_) rfl (by kernel_rfl) (by kernel_rfl) (by kernel_rfl) (fun _ _ _ h => h) (Or.inl ⟨by kernel_rfl, ?_⟩) hS ?_
    rotate_left
    · (intro w' hSw; go_simp <;> with_reducible rfl)
    try simp only [List.getElem_toArray, List.getElem_cons_succ, List.getElem_cons_zero, Act.put, List.setIfInBounds_toArray, List.set_cons_zero, List.set_cons_succ]
    refine wpAnyH_done (by kernel_rfl) ?_ _
    try simp only [List.getElem_toArray, List.getElem_cons_succ, List.getElem_cons_zero]
    try simp only [List.getElem_toArray, List.getElem_cons_succ, List.getElem_cons_zero, Act.put, List.setIfInBounds_toArray, List.set_cons_zero, List.set_cons_succ]
    go_wp2_with fail
    go_ret
    exact ⟨by rw [d1, Bool.false_and]; rfl, H1.out.2⟩
end Go.Proofs.Ytopbbicjbjmdnaa.X
namespace Go.Proofs.Ytopbbicjbjmdnaa
set_option maxRecDepth 100000
open Go.RowKit
def intV (b : Nat) : Value := .int .i64 (b : Int)
theorem intElem : Elem1 Try.prog 65 3 (.int .i64 0) 8 := Elem1.mk' Try.underlying65 rfl (by kernel_rfl)
/-- A tidemillref02.Writer at block a, its list in the block g: its bits. -/
structure RWr (w : World) (a : Nat) (g : Option Nat) (L : List Nat) : Prop where
  len : L.length ≤ 8388608
  bit : ∀ j, L.getD j 0 < 2
  blk : ∃ v, v.ownBlock = g ∧ Blk w a 93 #[v] ∧ w.ownsRow 0 3 1 v L.length (L.map intV)
theorem RWr.keeps {S : Nat → Prop} {w w' : World} {a : Nat} {g : Option Nat} {L : List Nat} (h : RWr w a g L) (hk : Keeps S w w') (ha : ¬ S a) (hg : ∀ k, g = some k → ¬ S k) : RWr w' a g L := by
  obtain ⟨h1, h2, v, hv, hb, ho⟩ := h
  exact ⟨h1, h2, v, hv, hb.keeps hk ha, own_keeps ho hk (fun k hk => hg k (by rw [← hv, hk]))⟩
theorem RWr.lt {w : World} {a : Nat} {g : Option Nat} {L : List Nat} (h : RWr w a g L) : a < w.heap.size := by
  obtain ⟨_, _, v, hv, hb, ho⟩ := h
  exact hb.lt
theorem RWr.glt {w : World} {a k : Nat} {L : List Nat} (h : RWr w a (some k) L) : k < w.heap.size := by
  obtain ⟨_, _, v, hv, hb, ho⟩ := h
  exact (ho.lt k hv).2
theorem RWr.ne {w : World} {a p : Nat} {g : Option Nat} {L : List Nat} {t : TypeId} {cs : Array Value} (h : RWr w a g L) (hp : Blk w p t cs) (h1 : 93 ≠ t) (h2 : 3 ≠ t) : p ≠ a ∧ some p ≠ g := by
  obtain ⟨_, _, v, hv, hb, ho⟩ := h
  exact ⟨fun e => hb.ne hp h1 e.symm, fun e => own_ne ho hp h2 (by rw [hv, e])⟩
def RPutPost (w : World) (a : Nat) (g : Option Nat) (L' : List Nat) (r : Int) (e : Ending) (w' : World) : Prop :=
  e = .returned (.int .i64 r) ∧ ∃ g', RWr w' a g' L' ∧ Keeps (fun k => k = a ∨ some k = g) w w' ∧ Moved w g g'
theorem rwr_snoc {w w1 : World} {a : Nat} {g : Option Nat} {L : List Nat} {v v1 : Value} {o : Obj} {b : Nat} (hb : b < 2) (hlt : L.length < 8388608) (hbit : ∀ j, L.getD j 0 < 2) (hv : v.ownBlock = g) (hblk : Blk w a 93 #[v]) (hown : w.ownsRow 0 3 1 v L.length (L.map intV))
    (hg1 : (w.alloc o).grownBy w1 v.ownBlock) (hown1 : w1.ownsRow 0 3 1 v1 (L.length + 1) (L.map intV ++ [intV b])) (hat1 : v1.ownBlock = v.ownBlock ∨ v1.ownBlock = some (w.heap.size + 1)) :
    Blk w1 a 93 #[v] ∧ ∃ g', RWr (w1.setCell ⟨a, 0, none⟩ v1) a g' (L ++ [b]) ∧ Keeps (fun k => k = a ∨ some k = g) w (w1.setCell ⟨a, 0, none⟩ v1) ∧ Moved w g g' := by
  have hka : Keeps (fun k => some k = g) w w1 := ((Keeps.refl _ w).alloc o).grown hg1 (fun k hk _ => by rw [← hk, hv])
  have hb1 : Blk w1 a 93 #[v] := hblk.keeps hka (fun e => own_ne hown hblk (by decide) (by rw [hv, e]))
  refine ⟨hb1, v1.ownBlock, ⟨by simp; omega, bits_snoc hbit hb, v1, rfl, ?_, ?_⟩, ?_, ?_⟩
  · have := hb1.set 0 v1
    simpa using this
  · have := own_setCell_other (i := 0) (u := v1) hown1 hb1 (by decide)
    simpa using this
  · exact (hka.mono (fun k _ h => .inr h)).setCell (fun _ => .inl rfl) _
  · rcases hat1 with h | h
    · exact .inl (h.trans hv)
    · exact .inr ⟨_, h, by omega⟩

set_option maxHeartbeats 400000 in
theorem rput_arg (w : World) (a : Nat) (g : Option Nat) (L : List Nat) (v n : Int) (h : RWr w a g L) (hn : n < 0 ∨ 64 < n) :
    Calls Try.prog 52 #[.pointer (some ⟨a, 0, none⟩), .int .u64 v, .int .i64 n] w (RPutPost w a g L 2) := by
  rcases hn with hn | hn
  · go_enter Try.func52, Try.ntmps52
    go_wp2
    go_ret
    exact ⟨rfl, g, h, Keeps.refl _ _, Moved.refl _ _⟩
  · have hn' : ¬ n < 0 := by omega
    go_enter Try.func52, Try.ntmps52
    go_wp2
    go_ret
    exact ⟨rfl, g, h, Keeps.refl _ _, Moved.refl _ _⟩

set_option maxHeartbeats 400000 in
theorem rput_big (w : World) (a : Nat) (g : Option Nat) (L : List Nat) (v n : Int) (h : RWr w a g L) (h0 : 0 ≤ n) (h64 : n ≤ 64) (hn : 8388608 - (L.length : Int) < n) :
    Calls Try.prog 52 #[.pointer (some ⟨a, 0, none⟩), .int .u64 v, .int .i64 n] w (RPutPost w a g L 3) := by
  have HH := Lib.hid h
  obtain ⟨hlen, _, vv, -, hb, ho⟩ := h
  obtain ⟨A, c, rfl, -, -⟩ := own_form ho
  have c0 := hb.cell 0
  simp only [List.getElem?_toArray, List.getElem?_cons_zero] at c0
  clear hb ho
  go_enter Try.func52, Try.ntmps52
  go_wp2
  go_ret
  exact ⟨rfl, g, HH.out, Keeps.refl _ _, Moved.refl _ _⟩

theorem wrap_bit (v m : Nat) (hv : v < 18446744073709551616) : wrap64 (bits .and .u64 ((v : Int) / 2 ^ m) 1) = ((v / 2 ^ m % 2 : Nat) : Int) := by
  rw [and_one_u64' v m hv]
  have : v / 2 ^ m % 2 < 2 := Nat.mod_lt _ (by omega)
  exact IntWalk.wrap64_in _ ⟨by omega, by omega⟩
set_option maxHeartbeats 800000 in
theorem rput_ok (w : World) (a : Nat) (g : Option Nat) (L : List Nat) (v n : Nat) (h : RWr w a g L) (hv : v < 18446744073709551616) (h64 : n ≤ 64) (hn : (n : Int) ≤ 8388608 - (L.length : Int)) :
    Calls Try.prog 52 #[.pointer (some ⟨a, 0, none⟩), .int .u64 v, .int .i64 n] w (RPutPost w a g (L ++ bitsTo v n n) 0) := by
  have HH := Lib.hid h
  obtain ⟨hlen, _, vv, -, hb, ho⟩ := h
  obtain ⟨A, c, rfl, -, -⟩ := own_form ho
  have c0 := hb.cell 0
  simp only [List.getElem?_toArray, List.getElem?_cons_zero] at c0
  clear hb ho
  have d1 : decide ((n : Int) < 0) = false := by simp
  have d2 : decide ((64 : Int) < n) = false := by simp; omega
  have d3 : decide (8388608 - (L.length : Int) < n) = false := by simp; omega
  go_enter Try.func52, Try.ntmps52
  go_wp2
  clear d1 d2 d3 c0
  go_loopw [7] (fun i wr => ∃ (k : Nat) (g' : Option Nat), k ≤ n ∧ i = .int .i64 ((n : Int) - 1 - k) ∧ RWr wr a g' (L ++ bitsTo v n k) ∧ Keeps (fun x => x = a ∨ some x = g) w wr ∧ Moved w g g')
    (fun i _ => (intOf i + 1).toNat)
  case atStart => exact ⟨0, g, by omega, by simp, by simpa [bitsTo_zero] using HH.out, Keeps.refl _ _, Moved.refl _ _⟩
  case round =>
    obtain ⟨k, g', hk, rfl, hw, hkp, hmv⟩ := hrel
    by_cases hlt : k < n
    · obtain ⟨m, hm⟩ : ∃ m : Nat, (n : Int) - 1 - k = (m : Int) := ⟨n - 1 - k, by omega⟩
      rw [hm]
      have hm64 : m < 64 := by omega
      have HM := Lib.hid hm
      clear hm
      obtain ⟨M, hM⟩ : ∃ M, M = L ++ bitsTo v n k := ⟨_, rfl⟩
      have hML : M.length = L.length + k := by rw [hM, List.length_append, bitsTo_length]
      rw [← hM] at hw
      have HMM := Lib.hid (And.intro hM hML)
      have hMlt : M.length < 8388608 := by omega
      clear hM hML
      obtain ⟨_, hbit, vv, hvv, hb, ho⟩ := hw
      obtain ⟨A1, c1, hv1, -, -⟩ := own_form ho
      rw [hv1] at hb ho hvv
      clear hv1
      have c0 := hb.cell 0
      simp only [List.getElem?_toArray, List.getElem?_cons_zero] at c0
      have HB := Lib.hid (And.intro hvv (And.intro hb (And.intro ho hbit)))
      clear hvv hb ho hbit
      go_wp2_with (at_builtin; refine wpList_append_sl (f := fun _ => intV (v / 2 ^ m % 2)) (D := fun k => k = wr.heap.size) (base := 0) (n := M.length) (xs := M.map intV) intElem rfl (.tmp 32) (.tmp 39) rfl rfl rfl ?hown ?hsl ?h1 ?h63 ?hby ?hbase ?_)
      case hown => exact HB.out.2.2.1.alloc _
      case hsl =>
        have e1 := wrap_bit v m hv
        rw [e1]
        exact sl_one _ _ _
      case h1 => intro j _; rfl
      case h63 => unfold maxLen; omega
      case hby => omega
      case hbase => simp
      intro v1 w1 hown1 hg1 hat1
      obtain ⟨A2, c2, hv2, -, -⟩ := own_form hown1
      rw [hv2]
      rw [hv2] at hown1 hat1
      clear hv2
      obtain ⟨hvv, hb, ho, hbit⟩ := HB.out
      obtain ⟨hb1, g2, hw2, hk2, hm2⟩ := rwr_snoc (Nat.mod_lt _ (by omega)) hMlt hbit hvv hb ho hg1 hown1 hat1
      have hkw : Keeps (fun x => x = a ∨ some x = g) w (w1.setCell ⟨a, 0, none⟩ (.slice A2 (M.length + 1) c2)) := hkp.trans hk2 (fun x hx e => by
        rcases e with e | e
        · exact .inl e
        · rcases hmv with h | ⟨y, h, hy⟩
          · exact .inr (e.trans h)
          · rw [h] at e; injection e with e; omega)
      have hmv1 : Moved w g g2 := hmv.trans hkp.size hm2
      rw [HMM.out.1, show L ++ bitsTo v n k ++ [v / 2 ^ m % 2] = L ++ bitsTo v n (k + 1) from by rw [bitsTo_succ, List.append_assoc, show n - 1 - k = m from by have := HM.out; omega]] at hw2
      rw [HMM.out.1] at hkw
      have f0 := hb1.frozen 0
      have c00 := hb1.cell 0
      simp only [List.getElem?_toArray, List.getElem?_cons_zero] at c00
      have HR := Lib.hid (And.intro hw2 (And.intro hkw hmv1))
      clear hown1 hg1 hat1 hvv hb ho hbit hb1 hw2 hk2 hm2 hkw hmv1 c0 hkp hmv HB
      go_wp2_with fail
      go_roundw
      case rel =>
        obtain ⟨hw2, hkw, hmv1⟩ := HR.out
        rw [HMM.out.1]
        exact ⟨k + 1, g2, by omega, by have := HM.out; go_num, hw2, hkw, hmv1⟩
      case measure => simp [intOf]
    · obtain rfl : k = n := by omega
      have e1 : (k : Int) - 1 - k = -1 := by omega
      rw [e1]
      go_wp2
      go_ret
      exact ⟨rfl, g', hw, hkp, hmv⟩

theorem rput_any (w : World) (a : Nat) (g : Option Nat) (L : List Nat) (v n : Int) (h : RWr w a g L) (h0 : 0 ≤ v) (hv : v < 18446744073709551616) :
    Calls Try.prog 52 #[.pointer (some ⟨a, 0, none⟩), .int .u64 v, .int .i64 n] w (RPutPost w a g (putL L v.toNat n) (putE L.length n)) := by
  obtain ⟨v, rfl⟩ := Int.eq_ofNat_of_zero_le h0
  by_cases h1 : 0 ≤ n ∧ n ≤ 64
  · by_cases h2 : n ≤ 8388608 - (L.length : Int)
    · obtain ⟨m, rfl⟩ := Int.eq_ofNat_of_zero_le h1.1
      have e1 : putE L.length m = 0 := by unfold putE; rw [if_pos h1, if_pos h2]
      have e2 : putL L (Int.toNat v) m = L ++ bitsTo v m m := by unfold putL; rw [if_pos ⟨h1.1, h1.2, h2⟩]; simp
      rw [e1, e2]
      exact rput_ok w a g L v m h (by omega) (by omega) h2
    · have e1 : putE L.length n = 3 := by unfold putE; rw [if_pos h1, if_neg h2]
      have e2 : putL L (Int.toNat v) n = L := by unfold putL; rw [if_neg (by omega)]
      rw [e1, e2]
      exact rput_big w a g L v n h h1.1 h1.2 (by omega)
  · have e1 : putE L.length n = 2 := by unfold putE; rw [if_neg h1]
    have e2 : putL L (Int.toNat v) n = L := by unfold putL; rw [if_neg (by omega)]
    rw [e1, e2]
    exact rput_arg w a g L v n h (by omega)
end Go.Proofs.Ytopbbicjbjmdnaa
namespace Go.Proofs.Ytopbbicjbjmdnaa
set_option maxRecDepth 100000
open Go.RowKit
theorem made_bytes (n : Nat) : (madeCells #[Value.int .u8 0] n).toList = (List.replicate n 0).map byteV := by
  rw [toList_madeCells_one, List.map_replicate]; rfl
set_option maxHeartbeats 800000 in
theorem bytes_rwr (w : World) (a : Nat) (g : Option Nat) (L : List Nat) (h : RWr w a g L) :
    Calls Try.prog 55 #[.pointer (some ⟨a, 0, none⟩)] w (BytesPost w (pack L)) := by
  have hlen := h.len
  have hbit := h.bit
  obtain ⟨m, hm⟩ : ∃ m, m = (L.length + 7) / 8 := ⟨_, rfl⟩
  obtain ⟨n, hn⟩ : ∃ n, n = L.length := ⟨_, rfl⟩
  have hm20 : m ≤ 1048577 := by omega
  have hmi : ((n : Int) + 7) / 8 = (m : Int) := by omega
  have HH := Lib.hid h
  obtain ⟨_, _, v, hv, hb, ho⟩ := h
  rw [← hn] at ho hlen
  obtain ⟨A, c, rfl, hnc, hA⟩ := own_form ho
  have c0 := hb.cell 0
  simp only [List.getElem?_toArray, List.getElem?_cons_zero] at c0
  have HB := Lib.hid hb
  have HO := Lib.hid ho
  have HN := Lib.hid hn
  have HM := Lib.hid hm
  have HA := Lib.hid hA
  have HBIT := Lib.hid hbit
  have hmn : 8 * m ≤ n + 7 := by omega
  have hmn2 : n ≤ 8 * m := by omega
  clear hb ho hn hv hA hm hbit
  obtain ⟨ht, -, i, hi, hz, hs1, hby⟩ := byteElem
  have HI := Lib.hid (And.intro hs1 hby)
  go_enter Try.func55, Try.ntmps55
  go_wp2_with (at_make; refine wpList_make_full _ rfl (.tmp 11) (.tmp 11) 24 rfl w.heap.size 5 i (.int .u8 0) 1 ht hi hz HI.out.1 .i64 .i64 _ _ m rfl rfl ?hl ?hc ?hb1 ?hb2 ?hb3 ?_)
  case hl => first | exact hmi | rfl
  case hc => first | exact hmi | rfl
  case hb1 => rw [HI.out.2]; omega
  case hb2 => unfold maxLen; omega
  case hb3 => exact Nat.le_refl _
  intro w1 ho1 hg1
  have hk1 : Keeps (fun _ => False) w w1 := (Keeps.refl _ w).grown hg1 (fun _ h => by cases h)
  clear hmi c0
  have ho1' : w1.ownsRow w.heap.size 5 1 (.slice (some ⟨w.heap.size, 0, none⟩) m m) m ((packTo L m 0).map byteV) := by
    rw [packTo_zero, ← made_bytes]; exact ho1
  clear ho1 hg1
  go_wp2_with fail
  go_loopw [4] (fun i wr => ∃ k : Nat, k ≤ n ∧ i = .int .i64 k ∧ wr.ownsRow w.heap.size 5 1 (.slice (some ⟨w.heap.size, 0, none⟩) m m) m ((packTo L m k).map byteV) ∧ Keeps (fun _ => False) w wr)
    (fun i _ => n - (intOf i).toNat)
  case atStart => exact ⟨0, by omega, rfl, ho1', hk1⟩
  case round =>
    obtain ⟨k, hk, rfl, hor, hkr⟩ := hrel
    clear ho1' hk1
    have hbr := HB.out.keeps hkr (fun h => h)
    have horr := own_keeps HO.out hkr (fun _ _ h => h)
    have c0 := hbr.cell 0
    simp only [List.getElem?_toArray, List.getElem?_cons_zero] at c0
    clear hbr
    by_cases hlt : k < n
    · obtain ⟨gb, hgb, -, -⟩ := HA.out (by omega)
      subst hgb
      have hck : wr.cell? ⟨gb, k, none⟩ = some (intV (L.getD k 0)) := by
        rw [horr.cellAt k (by omega), List.getElem?_map, List.getElem?_eq_getElem (by have := HN.out; omega), List.getD_eq_getElem?_getD, List.getElem?_eq_getElem (by have := HN.out; omega)]
        rfl
      obtain ⟨q, hq⟩ : ∃ q, q = k / 8 := ⟨_, rfl⟩
      obtain ⟨t, ht⟩ : ∃ t, t = k % 8 := ⟨_, rfl⟩
      obtain ⟨s, hs⟩ : ∃ s, s = 7 - t := ⟨_, rfl⟩
      obtain ⟨x, hx⟩ : ∃ x, x = byteAt (L.take k) q := ⟨_, rfl⟩
      have hcq : wr.cell? ⟨w.heap.size, q, none⟩ = some (.int .u8 x) := by
        rw [hor.cellAt q (by omega), List.getElem?_map, List.getElem?_eq_getElem (by rw [packTo_length]; omega)]
        have := packTo_getD L m k q (by omega)
        rw [List.getD_eq_getElem?_getD, List.getElem?_eq_getElem (by rw [packTo_length]; omega)] at this
        rw [hx, ← this]
        rfl
      have hfq := hor.frozenAt q
      have e1 : (k : Int) / 8 = (q : Int) := by omega
      have e3 : (k : Int) % 8 = (t : Int) := by omega
      have e4 : 7 - (t : Int) = (s : Int) := by omega
      have hqm : q < m := by omega
      have hs7 : s ≤ 7 := by omega
      have HP := Lib.hid (And.intro hq (And.intro ht (And.intro hs hx)))
      have HOR := Lib.hid hor
      clear hq ht hs hx horr hor
      have hbk := HBIT.out k
      rcases (show L.getD k 0 = 0 ∨ L.getD k 0 = 1 by omega) with hb0 | hb0
      · rw [hb0] at hck
        simp only [intV, Int.cast_ofNat_Int] at hck
        have HB0 := Lib.hid hb0
        clear hb0 hbk
        go_wp2_with fail
        go_roundw
        case rel => exact ⟨k + 1, by omega, by go_num, by rw [packTo_skip L m k (by have := HN.out; omega) HB0.out]; exact HOR.out, hkr⟩
        case measure => simp [intOf]; omega
      · rw [hb0] at hck
        simp only [intV, Int.natCast_one] at hck
        have HB0 := Lib.hid hb0
        clear hb0 hbk
        go_wp2_with fail
        go_roundw
        case rel =>
          obtain ⟨hq, ht, hs, hx⟩ := HP.out
          have hkL : k < L.length := by have := HN.out; omega
          have h1 := byteAt_take_succ L k q hkL
          rw [if_pos hq, HB0.out, Nat.one_mul, ← ht, ← hs, ← hx] at h1
          have h2 := byteAt_lt (take_bit HBIT.out (k + 1)) q
          have h3 := rby_step x s (by omega)
          rw [h3]
          refine ⟨k + 1, by omega, by go_num, ?_, hkr.setCell (fun hlt => absurd hlt (Nat.lt_irrefl _)) _⟩
          rw [← packTo_set L m k hkL HB0.out, List.map_set, ← hq, ← ht, ← hs, ← hx]
          exact (HOR.out.stored q _).1
        case measure => simp [intOf]; omega
    · obtain rfl : k = n := by omega
      go_wp2_with fail
      go_ret
      have e1 : packTo L m k = pack L := by rw [HN.out, HM.out]; exact packTo_all L
      have e2 : (pack L).length = m := by rw [pack_length]; exact HM.out.symm
      rw [e1] at hor
      exact ⟨some ⟨w.heap.size, 0, none⟩, m, by rw [e2]; rfl, by rw [e2]; exact hor, hkr⟩
end Go.Proofs.Ytopbbicjbjmdnaa
namespace Go.Proofs.Ytopbbicjbjmdnaa
set_option maxRecDepth 100000
open Go.RowKit
set_option linter.unusedSimpArgs false
set_option linter.unusedVariables false
theorem rput_fit (w : World) (a : Nat) (g : Option Nat) (L : List Nat) (v n : Int) (h : RWr w a g L) (h0 : 0 ≤ v) (hv : v < 18446744073709551616) (n0 : 0 ≤ n) (n64 : n ≤ 64) (hl : (L.length : Int) + 64 ≤ 8388608) :
    Calls Try.prog 52 #[.pointer (some ⟨a, 0, none⟩), .int .u64 v, .int .i64 n] w (RPutPost w a g (L ++ bitsTo v.toNat n.toNat n.toNat) 0) := by
  obtain ⟨v, rfl⟩ := Int.eq_ofNat_of_zero_le h0
  obtain ⟨n, rfl⟩ := Int.eq_ofNat_of_zero_le n0
  exact rput_ok w a g L v n h (by omega) (by omega) (by omega)
theorem RWr.drewN {w : World} {a : Nat} {g : Option Nat} {L : List Nat} (h : RWr w a g L) : RWr w.drew a g L := h.keeps (S := fun _ => False) (Keeps.refl _ w).drew (fun h => h) (fun _ _ h => h)
end Go.Proofs.Ytopbbicjbjmdnaa
namespace Go.Proofs.Ytopbbicjbjmdnaa.X
set_option maxRecDepth 100000
open Go.RowKit
set_option linter.unusedVariables false
set_option linter.unusedSimpArgs false
/-- Whether a window, if there is one, has what is other in it. -/
def fits (o : Option (Nat × Nat)) (x : Nat) : Bool := match o with
  | none => false
  | some p => decide (p.1 ≤ lead x) && decide (p.2 ≤ trail x)
def nextW (o : Option (Nat × Nat)) (x : Nat) : Option (Nat × Nat) := if x = 0 then o else if fits o x = true then o else some (lead x, trail x)
def winOf (o : Option (Nat × Nat)) : Nat × Nat := o.getD (0, 0)
def headB (o : Option (Nat × Nat)) (x : Nat) : List Nat :=
  if fits o x = true then bitsTo 2 2 2 else (bitsTo 3 2 2 ++ bitsTo (lead x) 6 6) ++ bitsTo (64 - lead x - trail x - 1) 6 6
def tailB (p : Nat × Nat) (x : Nat) : List Nat := bitsTo (x / 2 ^ p.2) (64 - p.1 - p.2) (64 - p.1 - p.2)
def xbits (o : Option (Nat × Nat)) (x : Nat) : List Nat := if x = 0 then bitsTo 0 1 1 else headB o x ++ tailB (winOf (nextW o x)) x
def xwin (f : Nat → Nat) : Nat → Option (Nat × Nat)
  | 0 => none
  | 1 => none
  | k + 2 => nextW (xwin f (k + 1)) (f (k + 1) ^^^ f k)
def xencTo (f : Nat → Nat) : Nat → List Nat
  | 0 => []
  | 1 => bitsTo (f 0) 64 64
  | k + 2 => xencTo f (k + 1) ++ xbits (xwin f (k + 1)) (f (k + 1) ^^^ f k)
theorem xbits_le (o : Option (Nat × Nat)) (x : Nat) : (xbits o x).length ≤ 78 := by
  unfold xbits headB tailB
  split
  · rw [bitsTo_length]; omega
  · rw [List.length_append, bitsTo_length]; split
    · rw [bitsTo_length]; omega
    · rw [List.length_append, List.length_append, bitsTo_length, bitsTo_length, bitsTo_length]; omega
theorem xbits_bit (o : Option (Nat × Nat)) (x : Nat) : ∀ j, (xbits o x).getD j 0 < 2 := by
  unfold xbits headB tailB
  split
  · exact bitsTo_bit _ _ _
  · refine bits_append ?_ (bitsTo_bit _ _ _)
    split
    · exact bitsTo_bit _ _ _
    · exact bits_append (bits_append (bitsTo_bit _ _ _) (bitsTo_bit _ _ _)) (bitsTo_bit _ _ _)
theorem xencTo_len (f : Nat → Nat) (k : Nat) : (xencTo f k).length ≤ 64 + 78 * k := by
  induction k with
  | zero => simp [xencTo]
  | succ k ih =>
    match k with
    | 0 => unfold xencTo; rw [bitsTo_length]; omega
    | k + 1 => unfold xencTo; rw [List.length_append]; have := xbits_le (xwin f (k + 1)) (f (k + 1) ^^^ f k); omega
theorem xencTo_bit (f : Nat → Nat) (k : Nat) : ∀ j, (xencTo f k).getD j 0 < 2 := by
  induction k with
  | zero => intro j; simp [xencTo]
  | succ k ih =>
    match k with
    | 0 => unfold xencTo; exact bitsTo_bit _ _ _
    | k + 1 => unfold xencTo; exact bits_append ih (xbits_bit _ _)
theorem xor_lt {a b : Nat} (ha : a < 18446744073709551616) (hb : b < 18446744073709551616) : a ^^^ b < 18446744073709551616 := Nat.xor_lt_two_pow (n := 64) ha hb
/-- A window that came of values: not wider than 63 bits left out. -/
def WinOk (o : Option (Nat × Nat)) : Prop := ∀ p, o = some p → p.1 + p.2 ≤ 63
theorem nextW_ok {o : Option (Nat × Nat)} {x : Nat} (h : WinOk o) (hx : x < 18446744073709551616) : WinOk (nextW o x) := by
  intro p hp
  unfold nextW at hp
  split at hp
  · exact h p hp
  · split at hp
    · exact h p hp
    · injection hp with hp; subst hp; exact window_le (by omega) hx
theorem xwin_ok {f : Nat → Nat} (hf : ∀ j, f j < 18446744073709551616) (k : Nat) : WinOk (xwin f k) := by
  induction k with
  | zero => intro p hp; cases hp
  | succ k ih =>
    match k with
    | 0 => intro p hp; cases hp
    | k + 1 => exact nextW_ok ih (xor_lt (hf _) (hf _))
/-- The window's cells. -/
def winC (o : Option (Nat × Nat)) : Array Value := match o with
  | none => #[.int .i64 (-1), .int .i64 (-1)]
  | some p => #[.int .i64 (p.1 : Nat), .int .i64 (p.2 : Nat)]
/-- The writer, and the window. -/
structure ES (w : World) (x y : Nat) (g : Option Nat) (L : List Nat) (o : Option (Nat × Nat)) (wr : World) : Prop where
  out : Wr wr x g L
  win : Blk wr y 85 (winC o)
  keeps : Keeps (fun _ => False) w wr
  own : ∀ q, g = some q → w.heap.size ≤ q
  hx : w.heap.size ≤ x
  hy : w.heap.size ≤ y
def EPutPost (w : World) (x y : Nat) (L : List Nat) (o : Option (Nat × Nat)) (e : Ending) (w' : World) : Prop :=
  e = .returned (.int .i64 0) ∧ ∃ g, ES w x y g L o w'
theorem put_es {w wr : World} {x y : Nat} {g : Option Nat} {L : List Nat} {o : Option (Nat × Nat)} (h : ES w x y g L o wr) (v n : Int) (h0 : 0 ≤ v) (hv : v < 18446744073709551616) (n0 : 0 ≤ n) (n64 : n ≤ 64) (hl : (L.length : Int) + 64 ≤ 8388608) :
    Calls Try.prog 43 #[.pointer (some ⟨x, 0, none⟩), .int .u64 v, .int .i64 n] wr (EPutPost w x y (L ++ bitsTo v.toNat n.toNat n.toNat) o) := by
  refine (put_fit _ _ _ _ v n h.out h0 hv n0 n64 hl).mono ?_
  rintro e w2 ⟨rfl, g2, hx2, hk2, hm2⟩
  obtain ⟨n1, n2⟩ := h.out.ne h.win (by decide) (by decide)
  exact ⟨rfl, g2, hx2, h.win.keeps hk2 (fun e => by rcases e with e | e; exact n1 e; exact n2 e), keeps_new h.keeps hk2 h.hx h.own, moved_new (w0 := w) hm2 h.keeps.size h.own, h.hx, h.hy⟩
theorem ES.below {w wr w' : World} {x y : Nat} {g : Option Nat} {L : List Nat} {o : Option (Nat × Nat)} (h : ES w x y g L o wr) (hb : Below wr.heap.size wr w') : ES w x y g L o w' := by
  have hk : Keeps (fun _ => False) wr w' := Keeps.of_below hb
  exact ⟨h.out.keeps hk (fun e => e) (fun _ _ e => e), h.win.below hb h.win.lt, h.keeps.trans' hk, h.own, h.hx, h.hy⟩
theorem winC_two (o : Option (Nat × Nat)) : ∃ l t : Int, winC o = #[.int .i64 l, .int .i64 t] := by
  cases o with
  | none => exact ⟨-1, -1, rfl⟩
  | some p => exact ⟨p.1, p.2, rfl⟩
theorem has_es (o : Option (Nat × Nat)) (q : Nat) (l t : Int) (hc : winC o = #[.int .i64 l, .int .i64 t]) (w : World) :
    Calls Try.prog 49 #[.agg #[.int .i64 l, .int .i64 t], .agg #[.int .i64 (lead q : Nat), .int .i64 (trail q : Nat)]] w fun e w' => e = .returned (.bool (fits o q)) ∧ Below w.heap.size w w' := by
  cases o with
  | none =>
    simp [winC] at hc
    obtain ⟨rfl, rfl⟩ := hc
    exact has_none _ _ w
  | some p =>
    simp [winC] at hc
    obtain ⟨rfl, rfl⟩ := hc
    have h := has_win p.1 p.2 (lead q : Nat) (trail q : Nat) w
    have e : fits (some p) q = (decide ((p.1 : Int) ≤ (lead q : Nat)) && decide ((p.2 : Int) ≤ (trail q : Nat))) := by simp [fits]
    rw [e]
    exact h
/-- Another window. -/
theorem ES.set {w wr : World} {x y : Nat} {g : Option Nat} {L : List Nat} {o : Option (Nat × Nat)} (h : ES w x y g L o wr) (l t : Nat) :
    ES w x y g L (some (l, t)) ((wr.setCell ⟨y, 0, none⟩ (.int .i64 (l : Nat))).setCell ⟨y, 1, none⟩ (.int .i64 (t : Nat))) := by
  obtain ⟨n1, n2⟩ := h.out.ne h.win (by decide) (by decide)
  obtain ⟨a, b, hc⟩ := winC_two o
  have hw := h.win
  rw [hc] at hw
  have hk : Keeps (fun k => k = y) wr ((wr.setCell ⟨y, 0, none⟩ (.int .i64 (l : Nat))).setCell ⟨y, 1, none⟩ (.int .i64 (t : Nat))) := ((Keeps.refl (fun k => k = y) wr).setCell (p := ⟨y, 0, none⟩) (fun _ => rfl) _).setCell (p := ⟨y, 1, none⟩) (fun _ => rfl) _
  refine ⟨h.out.keeps hk (fun e => n1 e.symm) (fun k hk e => n2 (by rw [hk, e])), hw.set2 _ _, h.keeps.trans hk (fun k hk e => by have := h.hy; omega), h.own, h.hx, h.hy⟩
theorem es_c0 {w wr : World} {x y : Nat} {g : Option Nat} {L : List Nat} {l t : Nat} (h : ES w x y g L (some (l, t)) wr) : wr.cell? ⟨y, 0, none⟩ = some (.int .i64 (l : Nat)) := by
  have := h.win.cell 0
  simpa [winC] using this
theorem es_c1 {w wr : World} {x y : Nat} {g : Option Nat} {L : List Nat} {l t : Nat} (h : ES w x y g L (some (l, t)) wr) : wr.cell? ⟨y, 1, none⟩ = some (.int .i64 (t : Nat)) := by
  have := h.win.cell 1
  simpa [winC] using this
theorem ES.drew {w wr : World} {x y : Nat} {g : Option Nat} {L : List Nat} {o : Option (Nat × Nat)} (h : ES w x y g L o wr) : ES w x y g L o wr.drew :=
  ⟨h.out.drewN 1, h.win.drew, h.keeps.drew, h.own, h.hx, h.hy⟩
theorem xbits_new {o : Option (Nat × Nat)} {q : Nat} (h0 : q ≠ 0) (hf : fits o q = false) :
    xbits o q = ((bitsTo 3 2 2 ++ bitsTo (lead q) 6 6) ++ bitsTo (64 - lead q - trail q - 1) 6 6) ++ bitsTo (q / 2 ^ trail q) (64 - lead q - trail q) (64 - lead q - trail q) ∧ nextW o q = some (lead q, trail q) := by
  have hn : nextW o q = some (lead q, trail q) := by unfold nextW; rw [if_neg h0, hf, if_neg (by simp)]
  refine ⟨?_, hn⟩
  unfold xbits headB
  rw [if_neg h0, hn, hf, if_neg (by simp)]
  rfl
theorem xbits_old {l t q : Nat} (h0 : q ≠ 0) (hf : fits (some (l, t)) q = true) :
    xbits (some (l, t)) q = bitsTo 2 2 2 ++ bitsTo (q / 2 ^ t) (64 - l - t) (64 - l - t) ∧ nextW (some (l, t)) q = some (l, t) := by
  have hn : nextW (some (l, t)) q = some (l, t) := by unfold nextW; rw [if_neg h0, hf, if_pos rfl]
  refine ⟨?_, hn⟩
  unfold xbits headB
  rw [if_neg h0, hn, hf, if_pos rfl]
  rfl
end Go.Proofs.Ytopbbicjbjmdnaa.X
