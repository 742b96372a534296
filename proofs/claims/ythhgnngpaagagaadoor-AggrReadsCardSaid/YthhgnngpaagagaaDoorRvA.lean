/-
  The contracts of tidemillref03.Read and ReadInt. (Printed by mk.py.)
-/
import Derived.Test.YthhgnngpaagagaaDoorErE
import Derived.Deep.CutBlock
namespace Go.Proofs.YthhgnngpaagagaaDoor
open Go.RowKit
set_option linter.unusedVariables false
set_option linter.unusedSimpArgs false
theorem fold_step {l : List Nat} {u r V : Nat} (hr : r < l.length) (h : u * 128 ^ (r + 1) + vval (l.take (r + 1)) = V) : (u * 128 + l.getD r 0 % 128) * 128 ^ r + vval (l.take r) = V := by
  rw [vval_step hr] at h
  rw [← h, Nat.pow_succ, Nat.add_mul, Nat.mul_comm (128 ^ r) (l.getD r 0 % 128), Nat.mul_assoc, Nat.mul_comm 128 (128 ^ r)]
  omega
set_option maxRecDepth 100000 in
set_option maxHeartbeats 4000000 in
theorem rvread_any (w : World) (D : Nat → Prop) (A : Option Addr) (len c : Nat) (l : List Nat) (hl : l.length = len) (hb : ∀ j, l.getD j 0 < 256) (hsl : Sl w D A len (byteC l)) (hm : len ≤ 9223372036854775807) :
    Calls Tryd.prog 16 #[.slice A len c] w (VReadPost l w) := by
  have HS := Lib.hid (And.intro hl (And.intro hb hsl))
  clear hl hb hsl
  go_enter Tryd.func16, Tryd.ntmps16
  go_upto_block 0 with (fail)
  go_cut [5] (fun s5 wx => s5 = .int .i64 (lead l : Nat) ∧ w = wx)
  case first =>
    go_wp2_with fail
    go_loop [5] (fun s5 => ∃ k : Nat, k ≤ len ∧ k ≤ 10 ∧ s5 = .int .i64 (k : Nat) ∧ ∀ j, j < k → 128 ≤ l.getD j 0) (fun s5 => len - (intOf s5).toNat)
    case atStart => exact ⟨0, by omega, by omega, rfl, fun j hj => by omega⟩
    case round =>
      obtain ⟨k, hk, hk10, rfl, hj⟩ := hrel
      have HJ := Lib.hid hj
      clear hj
      have hend : (k < 10 → k < len → l.getD k 0 < 128) → lead l = k := fun h => lead_eq hk10 (by rw [HS.out.1]; exact hk) HJ.out (by rw [HS.out.1]; exact h)
      have HE := Lib.hid hend
      clear hend
      by_cases hlt : k < len
      · by_cases h10 : k < 10
        · obtain ⟨b, off, rfl, -, hc⟩ := HS.out.2.2 (by omega)
          have ck := hc k hlt
          unfold byteC at ck
          obtain ⟨v, hv⟩ : ∃ v, v = l.getD k 0 := ⟨_, rfl⟩
          rw [← hv] at ck
          have HV := Lib.hid hv
          clear hv hc
          by_cases hbig : 128 ≤ v
          · have d : decide ((128 : Int) ≤ (v : Int)) = true := by simp; omega
            go_wp2_with fail
            go_round
            case rel => exact ⟨k + 1, by omega, by omega, by go_num, fun j hj => by
              rcases Nat.lt_or_ge j k with h | h
              · exact HJ.out j h
              · rw [show j = k by omega, ← HV.out]; exact hbig⟩
            case measure => simp [intOf]; omega
          · have d : decide ((128 : Int) ≤ (v : Int)) = false := by simp; omega
            have HQ := Lib.hid (HE.out (fun _ _ => by rw [← HV.out]; omega))
            go_wp2_with fail
            go_meet
            exact ⟨by rw [HQ.out], rfl⟩
        · have HQ := Lib.hid (HE.out (fun h => by omega))
          have d : decide ((k : Int) < 10) = false := by simp; omega
          go_wp2_with fail
          go_meet
          exact ⟨by rw [HQ.out], rfl⟩
      · have HQ := Lib.hid (HE.out (fun _ h => by omega))
        go_wp2_with fail
        go_meet
        exact ⟨by rw [HQ.out], rfl⟩
  case rest =>
    obtain ⟨rfl, rfl⟩ := hcut
    obtain ⟨p1, p2, p3, p4⟩ := lead_spec l
    have hG1 := @vget_long l
    have hG2 := @vget_end l
    have hG3 := @vget_form l
    have hG4 := @vget_ok l
    have hV := @vval_lt64 l (lead l)
    obtain ⟨q, hq⟩ : ∃ q, q = lead l := ⟨_, rfl⟩
    rw [← hq] at p1 p2 p3 p4 hG1 hG2 hG3 hG4 hV ⊢
    rw [HS.out.1] at p2 p4 hG2 hG3 hG4
    have HG := Lib.hid (And.intro hG1 (And.intro hG2 (And.intro hG3 (And.intro hG4 (And.intro p3 hV)))))
    clear hG1 hG2 hG3 hG4 p3 hV hq
    by_cases h10 : q = 10
    · have HQ := Lib.hid (HG.out.1 h10)
      have d : ((q : Int) == 10) = true := by simp; omega
      clear h10 p4
      go_wp2_with fail
      go_ret3
      exact ⟨by rw [HQ.out]; rfl, Below.refl _ _⟩
    have d10 : ((q : Int) == 10) = false := by simp; omega
    by_cases he : q = len
    · have HQ := Lib.hid (HG.out.2.1 he (by omega))
      have d : ((q : Int) == (len : Int)) = true := by simp; omega
      have d' : (q == len) = true := by simp; omega
      clear h10 he p4
      go_wp2_with fail
      go_ret3
      exact ⟨by rw [HQ.out]; rfl, Below.refl _ _⟩
    have dl : ((q : Int) == (len : Int)) = false := by simp; omega
    have dl' : (q == len) = false := by simp; omega
    have hqlt : q < len := by omega
    have hq10 : q < 10 := by omega
    have hv128 := p4 hq10 hqlt
    clear h10 he p4 p1 p2
    obtain ⟨b, off, rfl, -, hc⟩ := HS.out.2.2 (by omega)
    have ck := hc q hqlt
    unfold byteC at ck
    obtain ⟨v, hv⟩ : ∃ v, v = l.getD q 0 := ⟨_, rfl⟩
    rw [← hv] at ck hv128
    have HC := Lib.hid hc
    clear hc
    have HV := Lib.hid hv
    clear hv
    by_cases hform : (q = 9 ∧ 1 < v) ∨ (0 < q ∧ v = 0)
    · have HQ := Lib.hid (HG.out.2.2.1 hq10 hqlt (by
        rcases hform with ⟨h1, h2⟩ | ⟨h1, h2⟩
        · exact .inl ⟨h1, by rw [← h1, ← HV.out]; exact h2⟩
        · exact .inr ⟨h1, by rw [← HV.out]; exact h2⟩))
      have hcase : (q = 9 ∧ 1 < v) ∨ (q = 9 ∧ ¬ 1 < v ∧ v = 0) ∨ (¬ q = 9 ∧ 0 < q ∧ v = 0) := by omega
      clear hform hv128
      rcases hcase with ⟨rfl, h2⟩ | ⟨rfl, h2, rfl⟩ | ⟨h1, h2, rfl⟩
      · have d1 : decide ((1 : Int) < (v : Int)) = true := by simp; omega
        go_wp2_with fail
        go_ret3
        exact ⟨by rw [HQ.out]; rfl, Below.refl _ _⟩
      · go_wp2_with fail
        go_ret3
        exact ⟨by rw [HQ.out]; rfl, Below.refl _ _⟩
      · have d9 : ((q : Int) == 9) = false := by simp; omega
        clear h1
        go_wp2_with fail
        go_ret3
        exact ⟨by rw [HQ.out]; rfl, Below.refl _ _⟩
    · have hQ := HG.out.2.2.2.1 hq10 hqlt (by
        rw [← HV.out]
        rintro (⟨h1, h2⟩ | h)
        · exact hform (.inl ⟨h1, by rw [← h1, ← HV.out] at h2; exact h2⟩)
        · exact hform (.inr h))
      have hV64 := HG.out.2.2.2.2.2 hq10 (by rw [HS.out.1]; exact hqlt) (fun h9 => by rw [← h9, ← HV.out]; omega)
      obtain ⟨V, hVV⟩ : ∃ V, V = vval (l.take (q + 1)) := ⟨_, rfl⟩
      rw [← hVV] at hQ hV64
      have HQ := Lib.hid (And.intro hQ hVV)
      clear hQ hVV
      have hcase : (q = 9 ∧ ¬ 1 < v ∧ ¬ v = 0) ∨ (¬ q = 9 ∧ q = 0) ∨ (¬ q = 9 ∧ 0 < q ∧ ¬ v = 0) := by omega
      clear hform hv128
      rcases hcase with ⟨h1, h2, h3⟩ | ⟨h1, h2⟩ | ⟨h1, h2, h3⟩
      · have d1 : decide ((1 : Int) < (v : Int)) = false := by simp; omega
        have d9 : ((q : Int) == 9) = true := by simp; omega
        have d0 : ((v : Int) == 0) = false := by simp; omega
        have c9 : World.cell? w ⟨b, off + 9, none⟩ = some (.int .u8 (v : Int)) := by rw [← h1]; exact ck
        have h9l : 9 < len := by omega
        have h0q : 0 < q := by omega
        clear h1 h2 h3
        go_wp2_with fail

        go_loop [6, 7] (fun s6 s7 => ∃ r u : Nat, r ≤ q + 1 ∧ s7 = .int .i64 ((r : Int) - 1) ∧ s6 = .int .u64 (u : Nat) ∧ u * 128 ^ r + vval (l.take r) = V) (fun _ s7 => ((intOf s7) + 1).toNat)
        case atStart => exact ⟨q + 1, 0, Nat.le_refl _, by simp, rfl, by rw [Nat.zero_mul, Nat.zero_add]; exact HQ.out.2.symm⟩
        case round =>
          obtain ⟨r, u, hr, rfl, rfl, hu⟩ := hrel
          rcases Nat.eq_zero_or_pos r with hr0 | hr0
          · subst hr0
            have hu2 : u = V := by rw [← hu]; simp [vval]
            subst hu2
            have dneg : ¬ (0 : Int) ≤ (((0 : Nat) : Int) - 1) := by omega
            have HZ := Lib.hid HQ.out.1
            clear hu
            go_wp2_with fail
            go_ret3
            exact ⟨by rw [HZ.out]; rfl, Below.refl _ _⟩
          · obtain ⟨p, rfl⟩ : ∃ p, r = p + 1 := ⟨r - 1, by omega⟩
            have hstep := fold_step (l := l) (by rw [HS.out.1]; omega) hu
            have cp := HC.out p (by omega)
            unfold byteC at cp
            obtain ⟨x, hx⟩ : ∃ x, x = l.getD p 0 := ⟨_, rfl⟩
            have hx256 := HS.out.2.1 p
            rw [← hx] at cp hstep hx256
            have hle : u * 128 + x % 128 ≤ V := by
              rw [← hstep]
              exact Nat.le_trans (Nat.le_mul_of_pos_right _ (Nat.pow_pos (by omega))) (Nat.le_add_right _ _)
            have ep : (((p + 1 : Nat) : Int) - 1) = (p : Int) := by omega
            rw [ep]
            have HP := Lib.hid (And.intro hstep ep)
            clear hstep hx hu ep
            have hm1 : IntKind.u64.wrap ((u : Int) * 128) = (u : Int) * 128 := by rw [IntKind.wrap_u64]; omega
            have hm2 : IntKind.u64.wrap ((u : Int) * 128 + (x : Int) % 128) = (u : Int) * 128 + (x : Int) % 128 := by rw [IntKind.wrap_u64]; omega
            have hm3 : IntKind.u64.wrap ((x : Int) % 128) = (x : Int) % 128 := by rw [IntKind.wrap_u64]; omega
            go_wp2_with fail
            go_round
            case rel => exact ⟨p, u * 128 + x % 128, by omega, by go_num, by simp, HP.out.1⟩
            case measure => first | (simp [intOf]; omega) | simp [intOf]
      · have d9 : ((q : Int) == 9) = false := by simp; omega
        have dk : ¬ 0 < q := by omega
        have dk2 : decide (0 < q) = false := by simp; omega
        clear h1 h2
        go_wp2_with fail
        go_loop [6, 7] (fun s6 s7 => ∃ r u : Nat, r ≤ q + 1 ∧ s7 = .int .i64 ((r : Int) - 1) ∧ s6 = .int .u64 (u : Nat) ∧ u * 128 ^ r + vval (l.take r) = V) (fun _ s7 => ((intOf s7) + 1).toNat)
        case atStart => exact ⟨q + 1, 0, Nat.le_refl _, by simp, rfl, by rw [Nat.zero_mul, Nat.zero_add]; exact HQ.out.2.symm⟩
        case round =>
          obtain ⟨r, u, hr, rfl, rfl, hu⟩ := hrel
          rcases Nat.eq_zero_or_pos r with hr0 | hr0
          · subst hr0
            have hu2 : u = V := by rw [← hu]; simp [vval]
            subst hu2
            have dneg : ¬ (0 : Int) ≤ (((0 : Nat) : Int) - 1) := by omega
            have HZ := Lib.hid HQ.out.1
            clear hu
            go_wp2_with fail
            go_ret3
            exact ⟨by rw [HZ.out]; rfl, Below.refl _ _⟩
          · obtain ⟨p, rfl⟩ : ∃ p, r = p + 1 := ⟨r - 1, by omega⟩
            have hstep := fold_step (l := l) (by rw [HS.out.1]; omega) hu
            have cp := HC.out p (by omega)
            unfold byteC at cp
            obtain ⟨x, hx⟩ : ∃ x, x = l.getD p 0 := ⟨_, rfl⟩
            have hx256 := HS.out.2.1 p
            rw [← hx] at cp hstep hx256
            have hle : u * 128 + x % 128 ≤ V := by
              rw [← hstep]
              exact Nat.le_trans (Nat.le_mul_of_pos_right _ (Nat.pow_pos (by omega))) (Nat.le_add_right _ _)
            have ep : (((p + 1 : Nat) : Int) - 1) = (p : Int) := by omega
            rw [ep]
            have HP := Lib.hid (And.intro hstep ep)
            clear hstep hx hu ep
            have hm1 : IntKind.u64.wrap ((u : Int) * 128) = (u : Int) * 128 := by rw [IntKind.wrap_u64]; omega
            have hm2 : IntKind.u64.wrap ((u : Int) * 128 + (x : Int) % 128) = (u : Int) * 128 + (x : Int) % 128 := by rw [IntKind.wrap_u64]; omega
            have hm3 : IntKind.u64.wrap ((x : Int) % 128) = (x : Int) % 128 := by rw [IntKind.wrap_u64]; omega
            go_wp2_with fail
            go_round
            case rel => exact ⟨p, u * 128 + x % 128, by omega, by go_num, by simp, HP.out.1⟩
            case measure => first | (simp [intOf]; omega) | simp [intOf]
      · have d9 : ((q : Int) == 9) = false := by simp; omega
        have d0 : ((v : Int) == 0) = false := by simp; omega
        clear h1 h3
        go_wp2_with fail
        go_loop [6, 7] (fun s6 s7 => ∃ r u : Nat, r ≤ q + 1 ∧ s7 = .int .i64 ((r : Int) - 1) ∧ s6 = .int .u64 (u : Nat) ∧ u * 128 ^ r + vval (l.take r) = V) (fun _ s7 => ((intOf s7) + 1).toNat)
        case atStart => exact ⟨q + 1, 0, Nat.le_refl _, by simp, rfl, by rw [Nat.zero_mul, Nat.zero_add]; exact HQ.out.2.symm⟩
        case round =>
          obtain ⟨r, u, hr, rfl, rfl, hu⟩ := hrel
          rcases Nat.eq_zero_or_pos r with hr0 | hr0
          · subst hr0
            have hu2 : u = V := by rw [← hu]; simp [vval]
            subst hu2
            have dneg : ¬ (0 : Int) ≤ (((0 : Nat) : Int) - 1) := by omega
            have HZ := Lib.hid HQ.out.1
            clear hu
            go_wp2_with fail
            go_ret3
            exact ⟨by rw [HZ.out]; rfl, Below.refl _ _⟩
          · obtain ⟨p, rfl⟩ : ∃ p, r = p + 1 := ⟨r - 1, by omega⟩
            have hstep := fold_step (l := l) (by rw [HS.out.1]; omega) hu
            have cp := HC.out p (by omega)
            unfold byteC at cp
            obtain ⟨x, hx⟩ : ∃ x, x = l.getD p 0 := ⟨_, rfl⟩
            have hx256 := HS.out.2.1 p
            rw [← hx] at cp hstep hx256
            have hle : u * 128 + x % 128 ≤ V := by
              rw [← hstep]
              exact Nat.le_trans (Nat.le_mul_of_pos_right _ (Nat.pow_pos (by omega))) (Nat.le_add_right _ _)
            have ep : (((p + 1 : Nat) : Int) - 1) = (p : Int) := by omega
            rw [ep]
            have HP := Lib.hid (And.intro hstep ep)
            clear hstep hx hu ep
            have hm1 : IntKind.u64.wrap ((u : Int) * 128) = (u : Int) * 128 := by rw [IntKind.wrap_u64]; omega
            have hm2 : IntKind.u64.wrap ((u : Int) * 128 + (x : Int) % 128) = (u : Int) * 128 + (x : Int) % 128 := by rw [IntKind.wrap_u64]; omega
            have hm3 : IntKind.u64.wrap ((x : Int) % 128) = (x : Int) % 128 := by rw [IntKind.wrap_u64]; omega
            go_wp2_with fail
            go_round
            case rel => exact ⟨p, u * 128 + x % 128, by omega, by go_num, by simp, HP.out.1⟩
            case measure => first | (simp [intOf]; omega) | simp [intOf]
set_option maxRecDepth 100000 in
set_option maxHeartbeats 1000000 in
theorem rvreadInt_any (w : World) (D : Nat → Prop) (A : Option Addr) (len c : Nat) (l : List Nat) (hl : l.length = len) (hb : ∀ j, l.getD j 0 < 256) (hsl : Sl w D A len (byteC l)) (hm : len ≤ 9223372036854775807) :
    Calls Tryd.prog 17 #[.slice A len c] w (VIntPost l w) := by
  have HS := Lib.hid (And.intro hl (And.intro hb (And.intro hsl hm)))
  clear hl hb hsl hm
  go_enter Tryd.func17, Tryd.ntmps17
  go_wp2_with fail
  refine (rvread_any w D A len c l HS.out.1 HS.out.2.1 HS.out.2.2.1 HS.out.2.2.2).mono ?_
  rintro e w1 ⟨rfl, hb⟩
  have hve := vget_e l
  obtain ⟨u, hu⟩ : ∃ u, u = (vget l).1 := ⟨_, rfl⟩
  obtain ⟨n, hn⟩ : ∃ n, n = (vget l).2.1 := ⟨_, rfl⟩
  obtain ⟨k, hk⟩ : ∃ k, k = (vget l).2.2 := ⟨_, rfl⟩
  have hu2 := (vget_lt l).1
  rw [← hu] at hu2
  rw [← hu, ← hn, ← hk] at hve
  rw [← hu, ← hn, ← hk]
  have HU := Lib.hid (And.intro hu (And.intro hn (And.intro hk hb)))
  clear hu hn hk hb
  by_cases h0 : k = 0
  · subst h0
    clear hve
    go_wp2_with fail
    refine (rzag_any u _ hu2).mono ?_
    rintro e w2 ⟨rfl, rfl⟩
    obtain ⟨z, hz⟩ : ∃ z, z = zag u := ⟨_, rfl⟩
    rw [← hz]
    have HZ := Lib.hid hz
    clear hz
    go_wp2_with fail
    go_ret3
    exact ⟨by rw [← HU.out.1, ← HU.out.2.1, ← HU.out.2.2.1, ← HZ.out]; rfl, HU.out.2.2.2⟩
  · have d0 : ((k : Int) != 0) = true := by simp; omega
    obtain ⟨h1, rfl, rfl⟩ : (k = 10 ∨ k = 11) ∧ u = 0 ∧ n = 0 := by omega
    clear hve h0 h1
    go_wp2_with fail
    go_ret3
    exact ⟨by rw [← HU.out.1, ← HU.out.2.1, ← HU.out.2.2.1]; rfl, HU.out.2.2.2⟩
end Go.Proofs.YthhgnngpaagagaaDoor
