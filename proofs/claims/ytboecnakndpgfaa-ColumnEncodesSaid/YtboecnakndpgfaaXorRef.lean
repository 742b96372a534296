/-
  The contracts of tidemillref01.Lead and tidemillref01.Trail.
-/
import Derived.Test.YtboecnakndpgfaaXorWord
namespace Go.Proofs.Ytboecnakndpgfaa.X
open Go.RowKit
set_option linter.unusedVariables false
theorem and_one_u64 (x s : Nat) (hx : x < 18446744073709551616) : bits .and .u64 ((x : Int) / 2 ^ s) 1 = ((x / 2 ^ s % 2 : Nat) : Int) := by
  have h1 : x / 2 ^ s < 18446744073709551616 := Nat.lt_of_le_of_lt (Nat.div_le_self _ _) hx
  rw [show ((2 : Int) ^ s) = ((2 ^ s : Nat) : Int) by simp, show (x : Int) / ((2 ^ s : Nat) : Int) = ((x / 2 ^ s : Nat) : Int) from rfl, show (1 : Int) = ((1 : Nat) : Int) from rfl, u64_and_nat _ _ h1 (by omega), Nat.and_one_is_mod]
set_option maxRecDepth 100000 in
set_option maxHeartbeats 800000 in
theorem rlead_any (u : Nat) (hu : u < 18446744073709551616) (w : World) :
    Calls Try.prog 35 #[.int .u64 (u : Nat)] w fun e w' => e = .returned (.int .i64 (lead u : Nat)) ∧ w = w' := by
  go_enter Try.func35, Try.ntmps35
  go_wp2_with fail
  go_loop [3] (fun i => ∃ k : Nat, k ≤ 64 ∧ i = .int .i64 (k : Nat) ∧ u < 2 ^ (64 - k)) (fun i => 64 - (intOf i).toNat)
  case atStart => exact ⟨0, by omega, rfl, hu⟩
  case round =>
    obtain ⟨k, hk, rfl, hlt⟩ := hrel
    by_cases h64 : k = 64
    · subst h64
      go_wp2_with fail
      go_ret
      have : u = 0 := by simp at hlt; omega
      subst this
      exact ⟨rfl, rfl⟩
    · have h1 : k ≤ 63 := by omega
      have h2 : k < 64 := by omega
      have ds : (63 : Int) - k = ((63 - k : Nat) : Int) := by omega
      have hsp : 2 ^ (64 - k) = 2 * 2 ^ (63 - k) := by rw [← Nat.pow_succ']; congr 1; omega
      have hpp : 0 < 2 ^ (63 - k) := Nat.two_pow_pos _
      have HS := Lib.hid (And.intro hsp (And.intro hlt hpp))
      have da := and_one_u64 u (63 - k) hu
      by_cases hb : u / 2 ^ (63 - k) % 2 = 0
      · rw [hb] at da
        have HX := Lib.hid hb
        clear hb hsp hlt hpp
        go_wp2_with fail
        go_round
        case rel =>
          obtain ⟨hsp, hlt, hpp⟩ := HS.out
          have hb := HX.out
          refine ⟨k + 1, by omega, rfl, ?_⟩
          rw [show 64 - (k + 1) = 63 - k by omega]
          have h5 : u / 2 ^ (63 - k) < 2 := (Nat.div_lt_iff_lt_mul hpp).2 (by omega)
          have h6 : u / 2 ^ (63 - k) = 0 := by clear da HS HX; generalize u / 2 ^ (63 - k) = z at hb h5 ⊢; omega
          rcases Nat.div_eq_zero_iff.1 h6 with h | h <;> omega
        case measure => simp [intOf]; omega
      · have hb1 : u / 2 ^ (63 - k) % 2 = 1 := by omega
        rw [hb1] at da
        have HX := Lib.hid hb1
        clear hb hb1 hsp hlt hpp
        go_wp2_with fail
        go_ret
        obtain ⟨hsp, hlt, hpp⟩ := HS.out
        have hb := HX.out
        refine ⟨xret_int ?_, rfl⟩
        have h6 : 2 ^ (63 - k) ≤ u := by
          have : 1 ≤ u / 2 ^ (63 - k) := by clear da HS HX; generalize u / 2 ^ (63 - k) = z at hb ⊢; omega
          have := (Nat.le_div_iff_mul_le hpp).1 this
          omega
        rw [lead_uniq h1 h6 hlt]
set_option maxRecDepth 100000 in
set_option maxHeartbeats 800000 in
theorem rtrail_any (u : Nat) (hu : u < 18446744073709551616) (w : World) :
    Calls Try.prog 36 #[.int .u64 (u : Nat)] w fun e w' => e = .returned (.int .i64 (trail u : Nat)) ∧ w = w' := by
  go_enter Try.func36, Try.ntmps36
  go_wp2_with fail
  go_loop [3] (fun i => ∃ k q : Nat, k ≤ 64 ∧ i = .int .i64 (k : Nat) ∧ u = 2 ^ k * q) (fun i => 64 - (intOf i).toNat)
  case atStart => exact ⟨0, u, by omega, rfl, by omega⟩
  case round =>
    obtain ⟨k, q, hk, rfl, hq⟩ := hrel
    have HQ := Lib.hid hq
    clear hq
    by_cases h64 : k = 64
    · subst h64
      go_wp2_with fail
      go_ret
      have hq := HQ.out
      have : u = 0 := by omega
      subst this
      exact ⟨xret_int (by rw [trail_zero]; rfl), rfl⟩
    · have h1 : k ≤ 63 := by omega
      have h2 : k < 64 := by omega
      have da := and_one_u64 u k hu
      have hpp : 0 < 2 ^ k := Nat.two_pow_pos _
      have hd : u / 2 ^ k = q := by
        rw [HQ.out]; exact Nat.mul_div_cancel_left _ hpp
      rw [hd] at da
      clear hd hpp
      by_cases hb : q % 2 = 0
      · rw [hb] at da
        have HX := Lib.hid hb
        clear hb
        go_wp2_with fail
        go_round
        case rel =>
          have hb := HX.out
          refine ⟨k + 1, q / 2, by omega, rfl, ?_⟩
          rw [HQ.out, Nat.pow_succ, Nat.mul_assoc]; congr 1; omega
        case measure => simp [intOf]; omega
      · have hb1 : q % 2 = 1 := by omega
        rw [hb1] at da
        have HX := Lib.hid hb1
        clear hb hb1
        go_wp2_with fail
        go_ret
        have hb := HX.out
        refine ⟨xret_int ?_, rfl⟩
        rw [trail_uniq (t := k) (m := q / 2) hu (by rw [HQ.out]; congr 1; omega)]
end Go.Proofs.Ytboecnakndpgfaa.X
