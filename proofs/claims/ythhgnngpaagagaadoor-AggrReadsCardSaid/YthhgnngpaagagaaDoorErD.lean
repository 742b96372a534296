/-
  The contracts of varint's scan, Read.
-/
import Derived.Test.YthhgnngpaagagaaDoorErC
namespace Go.Proofs.YthhgnngpaagagaaDoor
open Go.RowKit
set_option linter.unusedVariables false
set_option linter.unusedSimpArgs false
def ScanPost (l : List Nat) (w : World) (e : Ending) (w' : World) : Prop :=
  ∃ er : Value, e = .returned (.tuple #[.int .u64 ((vget l).1 : Nat), .int .i64 ((vget l).2.1 : Nat), er]) ∧ (((vget l).2.2 = 0 ∧ er = .nilIface) ∨ ∃ i : Int, er = .iface 109 (.agg #[.int .i64 i, .int .i64 ((vget l).2.2 : Nat)])) ∧ w = w'
theorem acc_eq (x v k : Nat) (hx : x < 128 ^ k) (hk : k ≤ 9) (hv : v < 256) :
    ∃ y : Nat, bits .or .u64 (x : Int) (IntKind.u64.wrap (IntKind.u64.wrap (bits .and .u8 (v : Int) 127) * 2 ^ (7 * k))) = (y : Int) ∧ y < 18446744073709551616 ∧ (k ≤ 8 ∨ v ≤ 1 → y = x + 128 ^ k * (v % 128)) := by
  have e1 : bits .and .u8 (v : Int) 127 = ((v % 128 : Nat) : Int) := by
    rw [show (127 : Int) = ((127 : Nat) : Int) from rfl, u8_and_nat _ _ hv (by omega), show v &&& 127 = v % 128 from Nat.and_two_pow_sub_one_eq_mod v 7]
  have p9 : (128 : Nat) ^ k ≤ 128 ^ 9 := Nat.pow_le_pow_right (by omega) hk
  have ep : (2 : Nat) ^ (7 * k) = 128 ^ k := by rw [Nat.pow_mul]
  have e2 : (IntKind.u64.wrap ((v % 128 : Nat) : Int)) * 2 ^ (7 * k) = ((128 ^ k * (v % 128) : Nat) : Int) := by
    rw [show IntKind.u64.wrap ((v % 128 : Nat) : Int) = ((v % 128 : Nat) : Int) by rw [IntKind.wrap_u64]; omega, ← ep, Nat.mul_comm (2 ^ (7 * k))]
    simp
  have e3 : IntKind.u64.wrap (((128 ^ k * (v % 128) : Nat) : Int)) = ((128 ^ k * (v % 128) % 18446744073709551616 : Nat) : Int) := by
    rw [IntKind.wrap_u64]; rfl
  rw [e1, e2, e3, u64_or_nat _ _ (by omega) (Nat.mod_lt _ (by omega))]
  refine ⟨_, rfl, ?_, ?_⟩
  · exact Nat.or_lt_two_pow (n := 64) (by omega) (Nat.mod_lt _ (by omega))
  · intro h
    have hlt : 128 ^ k * (v % 128) < 18446744073709551616 := by
      rcases h with h | h
      · have p8 : (128 : Nat) ^ k ≤ 128 ^ 8 := Nat.pow_le_pow_right (by omega) h
        have : 128 ^ k * (v % 128) ≤ 128 ^ 8 * 127 := Nat.mul_le_mul p8 (by omega)
        omega
      · have : 128 ^ k * (v % 128) ≤ 128 ^ 9 * 1 := Nat.mul_le_mul p9 (by omega)
        omega
    rw [Nat.mod_eq_of_lt hlt, Nat.or_comm, Nat.mul_comm, ← ep, ← Nat.shiftLeft_eq, ← Nat.shiftLeft_add_eq_or_of_lt (by rw [ep]; exact hx)]
    omega
set_option maxRecDepth 100000 in
set_option maxHeartbeats 4000000 in
theorem scan_any (w : World) (D : Nat → Prop) (A : Option Addr) (len c : Nat) (l : List Nat) (hl : l.length = len) (hb : ∀ j, l.getD j 0 < 256) (hsl : Sl w D A len (byteC l)) (hm : len ≤ 9223372036854775807) :
    Calls Tryd.prog 52 #[.slice A len c] w (ScanPost l w) := by
  have HS := Lib.hid (And.intro hl (And.intro hb hsl))
  clear hl hb hsl
  go_enter Tryd.func52, Tryd.ntmps52
  go_wp2_with fail
  go_loop [2, 9] (fun s2 s9 => ∃ k x : Nat, k ≤ len ∧ k ≤ 10 ∧ s9 = .int .i64 (k : Nat) ∧ s2 = .int .u64 (x : Nat) ∧ (k ≤ 9 → x = vval (l.take k)) ∧ ∀ j, j < k → 128 ≤ l.getD j 0) (fun _ s9 => len - (intOf s9).toNat)
  case atStart => exact ⟨0, 0, by omega, by omega, rfl, rfl, fun _ => by simp [vval], fun j hj => by omega⟩
  case round =>
    obtain ⟨k, x, hk, hk10, rfl, rfl, hx, hj⟩ := hrel
    have HJ := Lib.hid hj
    have HX := Lib.hid hx
    clear hj hx
    by_cases hlt : k < len
    · obtain ⟨b, off, rfl, -, hc⟩ := HS.out.2.2 (by omega)
      have ck := hc k hlt
      unfold byteC at ck
      have hc256 := HS.out.2.1 k
      obtain ⟨v, hv⟩ : ∃ v, v = l.getD k 0 := ⟨_, rfl⟩
      rw [← hv] at ck hc256
      have HV := Lib.hid hv
      clear hv hc
      by_cases h10 : k = 10
      · subst h10
        have HG := Lib.hid (vget_long (lead_eq (l := l) (k := 10) (by omega) (by have := HS.out.1; omega) HJ.out (fun h => by omega)))
        go_wp2_with fail
        go_ret3
        exact ⟨_, by rw [HG.out]; rfl, .inr ⟨10, by rw [HG.out]; rfl⟩, rfl⟩
      · have hk9 : k ≤ 9 := by omega
        have hxl : x < 128 ^ k := by rw [HX.out hk9]; exact vval_take_lt l k
        obtain ⟨y, ey, hy, hy2⟩ := acc_eq x v k hxl hk9 hc256
        have hy3 : k ≤ 8 ∨ v ≤ 1 → y = vval (l.take (k + 1)) := fun h => by
          rw [hy2 h, vval_step (by have := HS.out.1; omega), HX.out hk9, HV.out]
        have HY := Lib.hid hy3
        have d10 : ((k : Int) == 10) = false := by simp; omega
        clear hxl hy2 hy3 h10
        by_cases hbig : 128 ≤ v
        · go_wp2_with fail
          go_round
          case rel => exact ⟨k + 1, y, by omega, by omega, by go_num, rfl, fun h => HY.out (.inl (by omega)), fun j hj => by
            rcases Nat.lt_or_ge j k with h | h
            · exact HJ.out j h
            · rw [show j = k by omega, ← HV.out]; exact hbig⟩
          case measure => simp [intOf]; omega
        · have hlead : lead l = k := lead_eq (by omega) (by have := HS.out.1; omega) HJ.out (fun _ _ => by rw [← HV.out]; omega)
          have hkl : k < l.length := by have := HS.out.1; omega
          have dbig : decide ((128 : Int) ≤ (v : Int)) = false := by simp; omega
          by_cases hform : (k = 9 ∧ 1 < v) ∨ (0 < k ∧ v = 0)
          · have HG := Lib.hid (vget_form (l := l) (by omega) (by omega) (by
              rw [hlead, ← HV.out]
              rcases hform with ⟨h1, h2⟩ | h
              · refine .inl ⟨h1, ?_⟩
                rw [← h1, ← HV.out]; exact h2
              · exact .inr h))
            clear hlead hkl
            rcases hform with ⟨rfl, h2⟩ | ⟨h1, rfl⟩
            · have d1 : decide ((1 : Int) < (v : Int)) = true := by simp; omega
              go_wp2_with fail
              go_ret3
              exact ⟨_, by rw [HG.out]; rfl, .inr ⟨_, by rw [HG.out]; rfl⟩, rfl⟩
            · have d1 : decide ((0 : Int) < (k : Int)) = true := by simp; omega
              by_cases hk9 : k = 9
              · subst hk9
                go_wp2_with fail
                go_ret3
                exact ⟨_, by rw [HG.out]; rfl, .inr ⟨_, by rw [HG.out]; rfl⟩, rfl⟩
              · have d9 : ((k : Int) == 9) = false := by simp; omega
                go_wp2_with fail
                go_ret3
                exact ⟨_, by rw [HG.out]; rfl, .inr ⟨_, by rw [HG.out]; rfl⟩, rfl⟩
          · have hG := vget_ok (l := l) (by omega) (by omega) (by
              rw [hlead, ← HV.out]
              rintro (⟨h1, h2⟩ | h)
              · exact hform (.inl ⟨h1, by rw [← h1, ← HV.out] at h2; exact h2⟩)
              · exact hform (.inr h))
            rw [hlead, ← HY.out (by omega)] at hG
            have HG := Lib.hid hG
            clear hlead hkl hG
            have hfin : ScanPost l w (.returned (.tuple #[.int .u64 (y : Nat), .int .i64 ((k : Int) + 1), .nilIface])) w := ⟨_, by rw [HG.out]; rfl, .inl ⟨by rw [HG.out], rfl⟩, rfl⟩
            have HFN := Lib.hid hfin
            clear hfin
            have hcase : (k = 9 ∧ ¬ 1 < v ∧ ¬ v = 0) ∨ (¬ k = 9 ∧ k = 0 ∧ v = 0) ∨ (¬ k = 9 ∧ ¬ v = 0) := by omega
            rcases hcase with ⟨h1, h2, h3⟩ | ⟨h1, h2, h3⟩ | ⟨h1, h3⟩
            · have d1 : decide ((1 : Int) < (v : Int)) = false := by simp; omega
              have d9 : ((k : Int) == 9) = true := by simp; omega
              have hv0 : ((v : Int) == 0) = false := by simp; omega
              clear h1 h2 h3 hform
              go_wp2_with fail
              go_ret3
              exact HFN.out
            · have d9 : ((k : Int) == 9) = false := by simp; omega
              have d0 : ((v : Int) == 0) = true := by simp; omega
              have dk : ¬ 0 < k := by omega
              have dk2 : decide (0 < k) = false := by simp; omega
              clear h1 h2 h3 hform
              go_wp2_with fail
              go_ret3
              exact HFN.out
            · have d9 : ((k : Int) == 9) = false := by simp; omega
              have d0 : ((v : Int) == 0) = false := by simp; omega
              clear h1 h3 hform
              go_wp2_with fail
              go_ret3
              exact HFN.out
    · obtain rfl : k = len := by omega
      have hlead : lead l = k := lead_eq (by omega) (by have := HS.out.1; omega) HJ.out (fun _ h => by have := HS.out.1; omega)
      by_cases h10 : k = 10
      · subst h10
        have HG := Lib.hid (vget_long hlead)
        clear hlead
        go_wp2_with fail
        go_ret3
        exact ⟨_, by rw [HG.out]; rfl, .inr ⟨10, by rw [HG.out]; rfl⟩, rfl⟩
      · have HG := Lib.hid (vget_end (l := l) (by rw [hlead, HS.out.1]) (by have := HS.out.1; omega))
        have d10 : decide ((10 : Int) ≤ (k : Int)) = false := by simp; omega
        clear hlead h10
        go_wp2_with fail
        go_ret3
        exact ⟨_, by rw [HG.out]; rfl, .inr ⟨_, by rw [HG.out]; rfl⟩, rfl⟩
def VReadPost (l : List Nat) (w : World) (e : Ending) (w' : World) : Prop :=
  e = .returned (.tuple #[.int .u64 ((vget l).1 : Nat), .int .i64 ((vget l).2.1 : Nat), .int .i64 ((vget l).2.2 : Nat)]) ∧ Below w.heap.size w w'
set_option maxRecDepth 100000 in
set_option maxHeartbeats 1000000 in
theorem vread_any (w : World) (D : Nat → Prop) (A : Option Addr) (len c : Nat) (l : List Nat) (hl : l.length = len) (hb : ∀ j, l.getD j 0 < 256) (hsl : Sl w D A len (byteC l)) (hm : len ≤ 9223372036854775807) (hv : HErr w) :
    Calls Tryd.prog 35 #[.slice A len c] w (VReadPost l w) := by
  have HS := Lib.hid (And.intro hl (And.intro hb (And.intro hsl (And.intro hm hv))))
  clear hl hb hsl hm hv
  go_enter Tryd.func35, Tryd.ntmps35
  go_wp2_with fail
  refine (scan_any w D A len c l HS.out.1 HS.out.2.1 HS.out.2.2.1 HS.out.2.2.2.1).mono ?_
  rintro e w1 ⟨er, rfl, her, rfl⟩
  obtain ⟨u, hu⟩ : ∃ u, u = (vget l).1 := ⟨_, rfl⟩
  obtain ⟨n, hn⟩ : ∃ n, n = (vget l).2.1 := ⟨_, rfl⟩
  obtain ⟨k, hk⟩ : ∃ k, k = (vget l).2.2 := ⟨_, rfl⟩
  rw [← hk] at her
  rw [← hu, ← hn]
  have HU := Lib.hid (And.intro hu (And.intro hn hk))
  clear hu hn hk
  rcases her with ⟨h0, rfl⟩ | ⟨i, rfl⟩
  · have H0 := Lib.hid h0
    clear h0
    go_wp2_with fail
    refine (number_nil _).mono ?_
    rintro e w2 ⟨rfl, hb⟩
    have HB := Lib.hid hb
    clear hb
    go_wp2_with fail
    go_ret3
    exact ⟨by rw [← HU.out.1, ← HU.out.2.1, ← HU.out.2.2, H0.out]; rfl, HB.out⟩
  · go_wp2_with fail
    refine (number_fault i k _ HS.out.2.2.2.2).mono ?_
    rintro e w2 ⟨rfl, hb⟩
    have HB := Lib.hid hb
    clear hb
    go_wp2_with fail
    go_ret3
    exact ⟨by rw [← HU.out.1, ← HU.out.2.1, ← HU.out.2.2]; rfl, HB.out⟩
end Go.Proofs.YthhgnngpaagagaaDoor
