/-
  The contract of bits.Div64. (Printed by mk.py.)
-/
import Derived.Test.YthhgnngpaagagaaAgK
import Derived.Test.YthhgnngpaagagaaLz
import Derived.Test.YthhgnngpaagagaaDivPl
import Derived.Deep.CutBlock
import Derived.Deep.QuietTactic
import Derived.BigQuiet
namespace Go.Proofs.Ythhgnngpaagagaa
open Go.RowKit
set_option linter.unusedVariables false
set_option linter.unusedSimpArgs false
def DivPost (h l y : Nat) (w : World) (e : Ending) (w' : World) : Prop :=
  e = .returned (.tuple #[.int .u64 (((h * 18446744073709551616 + l) / y : Nat) : Int), .int .u64 (((h * 18446744073709551616 + l) % y : Nat) : Int)]) ∧ Below w.heap.size w w'
set_option maxRecDepth 100000 in
set_option maxHeartbeats 4000000 in
theorem div64_zero (l y : Nat) (hy : 0 < y) (hy' : y < 18446744073709551616) (hl : l < 18446744073709551616) (w : World) :
    Calls Try.prog 46 #[.int .u64 0, .int .u64 l, .int .u64 y] w (DivPost 0 l y w) := by
  have d1 : ((y : Int) == 0) = false := by simp; omega
  have d2 : ¬ y = 0 := by omega
  have d3 : decide ((y : Int) ≤ 0) = false := by simp; omega
  go_enter Try.func46, Try.ntmps46
  go_wp2_with fail
  go_quiet (fail)
  go_wp2_with fail
  go_ret2
  refine ⟨?_, ((Keeps.refl (fun _ => False) w).drewN _).to_below⟩
  have e1 : IntKind.u64.wrap ((l : Int) / y) = (((0 * 18446744073709551616 + l) / y : Nat) : Int) := by
    have h1 : (l : Int) / y = ((l / y : Nat) : Int) := rfl
    have h2 : l / y ≤ l := Nat.div_le_self _ _
    rw [h1, wrap_u64_in (Int.natCast_nonneg _) (by omega), Nat.zero_mul, Nat.zero_add]
  have e2 : (l : Int) % y = (((0 * 18446744073709551616 + l) % y : Nat) : Int) := by
    rw [Nat.zero_mul, Nat.zero_add]; rfl
  rw [← e1, ← e2]
  rfl
set_option maxRecDepth 100000 in
set_option maxHeartbeats 4000000 in
theorem div64_main (h l y : Nat) (h0 : 0 < h) (hh : h < y) (hy' : y < 18446744073709551616) (hl : l < 18446744073709551616) (w : World) :
    Calls Try.prog 46 #[.int .u64 h, .int .u64 l, .int .u64 y] w (DivPost h l y w) := by
  have d1 : ((y : Int) == 0) = false := by simp; omega
  have d2 : decide ((y : Int) ≤ h) = false := by simp; omega
  have d3 : ((h : Int) == 0) = false := by simp; omega
  go_enter Try.func46, Try.ntmps46
  go_wp2_with fail
  refine (leadingZeros64 _ _ (by omega) (by omega)).mono ?_
  rintro e w' ⟨rfl, hw⟩
  subst hw
  have hb := bitLen_bd 64 y (by omega) (by omega)
  rw [show ((y : Int)).toNat = y from rfl]
  obtain ⟨s, hs⟩ : ∃ s : Nat, s = 64 - Lib.bitLen y := ⟨_, rfl⟩
  have hL : Lib.bitLen y = Lib.bitLenAux 64 y := rfl
  rw [← hL] at hb
  have e1 : (64 : Int) - (Lib.bitLen y : Int) = (s : Int) := by omega
  rw [e1]
  have hs63 : s ≤ 63 := by omega
  have HL := Lib.hid (And.intro hb hs)
  obtain ⟨b1, b2, b3, b4, b5⟩ := div_setup hs hh hl hb.2.1 hb.1 hb.2.2.1 hb.2.2.2
  have hh2 : h * 2 ^ s < 18446744073709551616 := Nat.lt_of_le_of_lt (Nat.le_add_right _ _) (Nat.lt_trans b4 b1)
  clear hb hs hL e1
  obtain ⟨D, hD⟩ : ∃ D, D = y * 2 ^ s := ⟨_, rfl⟩
  obtain ⟨u, hu⟩ : ∃ u, u = h * 2 ^ s + l / 2 ^ (64 - s) := ⟨_, rfl⟩
  obtain ⟨t, ht⟩ : ∃ t, t = (l * 2 ^ s) % 18446744073709551616 := ⟨_, rfl⟩
  have f1 : IntKind.u64.wrap ((y : Int) * 2 ^ s) = (D : Int) := by
    rw [show (y : Int) * 2 ^ s = ((y * 2 ^ s : Nat) : Int) by simp, ← hD, wrap_u64_in (by omega) (by omega)]
  have f2 : IntKind.u64.wrap ((h : Int) * 2 ^ s) = ((h * 2 ^ s : Nat) : Int) := by
    rw [show (h : Int) * 2 ^ s = ((h * 2 ^ s : Nat) : Int) by simp, wrap_u64_in (by omega) (by omega)]
  have f3 : bits BinOp.or IntKind.u64 ((h : Int) * 2 ^ s) ((l : Int) / 2 ^ (64 - s)) = (u : Int) := by
    rw [show (l : Int) / 2 ^ (64 - s) = ((l / 2 ^ (64 - s) : Nat) : Int) by simp, show (h : Int) * 2 ^ s = ((h * 2 ^ s : Nat) : Int) by simp, u64_or_nat _ _ (by omega) (by omega), or_add b3, ← hu]
  have f4 : IntKind.u64.wrap ((l : Int) * 2 ^ s) = (t : Int) := by
    rw [show (l : Int) * 2 ^ s = ((l * 2 ^ s : Nat) : Int) by simp, wrap_u64, ht]; rfl
  rw [← hD] at b1 b2 b4
  rw [← hu] at b4 b5
  rw [← ht] at b5
  have ht2 : t < 18446744073709551616 := by rw [ht]; exact Nat.mod_lt _ (by omega)
  have f5 : bits BinOp.and IntKind.u64 (D : Int) 4294967295 = ((D % 4294967296 : Nat) : Int) := by rw [and_u64_32 _ (by omega) (by omega)]; rfl
  have f6 : bits BinOp.and IntKind.u64 (t : Int) 4294967295 = ((t % 4294967296 : Nat) : Int) := by rw [and_u64_32 _ (by omega) (by omega)]; rfl
  have HB := Lib.hid (And.intro hD b5)
  clear b3 hh2 hu ht hD b5
  go_upto_region 15 with (fail)
  clear f1 f2 f3 f4 f5 f6
  obtain ⟨v1, hv1⟩ : ∃ v1, v1 = D / 4294967296 := ⟨_, rfl⟩
  obtain ⟨v0, hv0⟩ : ∃ v0, v0 = D % 4294967296 := ⟨_, rfl⟩
  obtain ⟨u1, hu1⟩ : ∃ u1, u1 = t / 4294967296 := ⟨_, rfl⟩
  obtain ⟨u0, hu0⟩ : ∃ u0, u0 = t % 4294967296 := ⟨_, rfl⟩
  rw [show (D : Int) / 4294967296 = ((v1 : Nat) : Int) by rw [hv1]; rfl, show (t : Int) / 4294967296 = ((u1 : Nat) : Int) by rw [hu1]; rfl, show (D : Int) % 4294967296 = ((v0 : Nat) : Int) by rw [hv0]; rfl, show (t : Int) % 4294967296 = ((u0 : Nat) : Int) by rw [hu0]; rfl]
  have v1l : v1 < 4294967296 := by omega
  have v1h : 2147483648 ≤ v1 := by omega
  have v0l : v0 < 4294967296 := by omega
  have eD : D = v1 * 4294967296 + v0 := by omega
  have u1l : u1 < 4294967296 := by omega
  have u0l : u0 < 4294967296 := by omega
  have et : t = u1 * 4294967296 + u0 := by omega
  have HV := Lib.hid (And.intro eD (And.intro et (And.intro b4 (And.intro ht2 (And.intro b1 b2)))))
  clear hv1 hv0 hu1 hu0 eD et b4 ht2
  obtain ⟨qa, hqa⟩ : ∃ qa, qa = u / v1 := ⟨_, rfl⟩
  obtain ⟨ra, hra⟩ : ∃ ra, ra = u % v1 := ⟨_, rfl⟩
  have hdm := Nat.div_add_mod u v1
  rw [← hqa, ← hra, Nat.mul_comm] at hdm
  have hrl : ra < v1 := by rw [hra]; exact Nat.mod_lt _ (by omega)
  obtain ⟨Q1, hQ1⟩ : ∃ Q1, Q1 = (u * 4294967296 + u1) / D := ⟨_, rfl⟩
  have hQl : Q1 < 4294967296 := by rw [hQ1, HV.out.1]; exact dig_lt (by have := HV.out; omega) (by omega)
  have hQf : Q1 ≤ qa := by rw [hQ1, HV.out.1, hqa]; exact dig_first (by omega) (by omega)
  have hUl : u < 18446744073709551616 := by have := HV.out; omega
  have hql : qa ≤ u := by rw [hqa]; exact Nat.div_le_self _ _
  have k0 : IntKind.u64.wrap ((u : Int) / (v1 : Int)) = (qa : Int) := by
    rw [show (u : Int) / (v1 : Int) = ((u / v1 : Nat) : Int) by rfl, ← hqa, wrap_u64_in (by omega) (by omega)]
  have k1 : IntKind.u64.wrap ((qa : Int) * (v1 : Int)) = (qa : Int) * (v1 : Int) := by
    rw [show (qa : Int) * (v1 : Int) = ((qa * v1 : Nat) : Int) by simp, wrap_u64_in (by omega) (by omega)]
  have k2 : IntKind.u64.wrap ((u : Int) - (qa : Int) * (v1 : Int)) = (ra : Int) := by
    rw [show (u : Int) - (qa : Int) * (v1 : Int) = (ra : Int) by rw [← hdm]; simp; omega, wrap_u64_in (by omega) (by omega)]
  have k3 : ((v1 : Int) == 0) = false := by simp; omega
  have HQ1 := Lib.hid (And.intro hdm (And.intro hrl (And.intro hQ1 (And.intro hQl hQf))))
  clear hUl hql hdm hrl hQ1 hQl hQf hqa hra
  go_upto_block 0 with (fail)
  clear k0 k1 k2 k3
  go_cut [15, 16] (fun s1 s2 wx => s1 = .int .u64 (Q1 : Nat) ∧ w' = wx)
  case first =>
    go_wp2_with fail
    go_loop [15, 16] (fun s1 s2 => ∃ q r : Nat, s1 = .int .u64 (q : Nat) ∧ s2 = .int .u64 (r : Nat) ∧ q * v1 + r = u ∧ r < 4294967296 ∧ Q1 ≤ q ∧ q < 18446744073709551616) (fun s1 _ => (intOf s1).toNat)
    case atStart => exact ⟨qa, ra, rfl, rfl, HQ1.out.1, by have := HQ1.out.2.1; omega, HQ1.out.2.2.2.2, by
      have h1 := HQ1.out.1
      have h2 : qa ≤ qa * v1 := Nat.le_mul_of_pos_right _ (by omega)
      have := HV.out
      omega⟩
    case round =>
      obtain ⟨q, r, rfl, rfl, hqr, hr, hQ, hq64⟩ := hrel
      have hQl := HQ1.out.2.2.2.1
      have HH := Lib.hid hqr
      clear hqr
      have m1 : IntKind.u64.wrap (4294967296 * (r : Int)) = 4294967296 * (r : Int) := wrap_u64_in (by omega) (by omega)
      have m2 : IntKind.u64.wrap (4294967296 * (r : Int) + (u1 : Int)) = 4294967296 * (r : Int) + (u1 : Int) := wrap_u64_in (by omega) (by omega)
      have m4 : IntKind.u64.wrap ((r : Int) + (v1 : Int)) = (r : Int) + (v1 : Int) := wrap_u64_in (by omega) (by omega)
      by_cases hdone : q < 4294967296 ∧ q * v0 ≤ 4294967296 * r + u1
      · obtain ⟨c1, c2⟩ := hdone
        have eQ : q = Q1 := by
          have := dig_small HH.out c2 (by omega)
          rw [← HV.out.1, ← HQ1.out.2.2.1] at this
          omega
        obtain ⟨p, hp⟩ : ∃ p, p = q * v0 := ⟨_, rfl⟩
        rw [← hp] at c2
        have hpl : p < 18446744073709551616 := by omega
        have m3 : IntKind.u64.wrap ((q : Int) * (v0 : Int)) = (p : Int) := by
          rw [show (q : Int) * (v0 : Int) = ((q * v0 : Nat) : Int) by simp, ← hp, wrap_u64_in (by omega) (by omega)]
        have d5 : decide ((4294967296 : Int) ≤ (q : Int)) = false := by simp; omega
        have d6 : decide (4294967296 * (r : Int) + (u1 : Int) < (p : Int)) = false := by simp; omega
        have HP := Lib.hid (And.intro hp eQ)
        clear hp eQ hQ
        go_wp2_with fail
        go_meet
        exact ⟨by rw [HP.out.2], rfl⟩
      · have hQ1 : Q1 + 1 ≤ q := by
          by_cases c1 : q < 4294967296
          · have := dig_great HH.out (v0 := v0) (u1 := u1) (Nat.lt_of_not_le fun c => hdone ⟨c1, c⟩) (by omega)
            rw [← HV.out.1, ← HQ1.out.2.2.1] at this
            omega
          · omega
        obtain ⟨q', rfl⟩ : ∃ q', q = q' + 1 := ⟨q - 1, by omega⟩
        have hqr' : q' * v1 + (r + v1) = u := by have := HH.out; rw [Nat.succ_mul] at this; omega
        have HT := Lib.hid (And.intro hqr' hQ1)
        have m5 : IntKind.u64.wrap (((q' + 1 : Nat) : Int) - 1) = (q' : Int) := by rw [show ((q' + 1 : Nat) : Int) - 1 = (q' : Int) by omega, wrap_u64_in (by omega) (by omega)]
        have hhalf : ∀ c : 4294967296 ≤ r + v1, q' = Q1 := fun c => by
          have := dig_out hqr' (u1 := u1) (v0 := v0) (by have := HV.out; omega) v0l c
          rw [← HV.out.1, ← HQ1.out.2.2.1] at this
          omega
        have HD := Lib.hid (And.intro hdone hhalf)
        clear hdone hhalf hqr' hQ1 hQ
        obtain ⟨qx, hqx⟩ : ∃ qx : Nat, qx = q' + 1 := ⟨_, rfl⟩
        rw [← hqx] at m5 ⊢
        have HX := Lib.hid hqx
        clear hqx
        by_cases c1 : 4294967296 ≤ qx
        · have d5 : decide ((4294967296 : Int) ≤ (qx : Int)) = true := by simp; omega
          clear c1
          by_cases hov : 4294967296 ≤ r + v1
          · have d7 : decide ((4294967296 : Int) ≤ (r : Int) + (v1 : Int)) = true := by simp; omega
            have HO := Lib.hid (HD.out.2 hov)
            clear hov
            go_wp2_with fail
            go_meet
            exact ⟨by rw [HO.out], rfl⟩
          · have d7 : decide ((4294967296 : Int) ≤ (r : Int) + (v1 : Int)) = false := by simp; omega
            go_wp2_with fail
            go_round
            case rel => exact ⟨q', r + v1, rfl, by simp, HT.out.1, by omega, by have := HT.out.2; omega, by have := HX.out; omega⟩
            case measure => have := HX.out; simp [intOf]; omega
        · have c2 : 4294967296 * r + u1 < qx * v0 := Nat.lt_of_not_le fun c => HD.out.1 (by rw [← HX.out]; exact ⟨by omega, c⟩)
          have hpl : qx * v0 ≤ 4294967295 * 4294967295 := Nat.mul_le_mul (by omega) (by omega)
          obtain ⟨p, hp⟩ : ∃ p, p = qx * v0 := ⟨_, rfl⟩
          rw [← hp] at c2 hpl
          have m3 : IntKind.u64.wrap ((qx : Int) * (v0 : Int)) = (p : Int) := by
            rw [show (qx : Int) * (v0 : Int) = ((qx * v0 : Nat) : Int) by simp, ← hp, wrap_u64_in (by omega) (by omega)]
          have d5 : decide ((4294967296 : Int) ≤ (qx : Int)) = false := by simp; omega
          have d6 : decide (4294967296 * (r : Int) + (u1 : Int) < (p : Int)) = true := by simp; omega
          clear hp c1
          by_cases hov : 4294967296 ≤ r + v1
          · have d7 : decide ((4294967296 : Int) ≤ (r : Int) + (v1 : Int)) = true := by simp; omega
            have HO := Lib.hid (HD.out.2 hov)
            clear hov
            go_wp2_with fail
            go_meet
            exact ⟨by rw [HO.out], rfl⟩
          · have d7 : decide ((4294967296 : Int) ≤ (r : Int) + (v1 : Int)) = false := by simp; omega
            go_wp2_with fail
            go_round
            case rel => exact ⟨q', r + v1, rfl, by simp, HT.out.1, by omega, by have := HT.out.2; omega, by have := HX.out; omega⟩
            case measure => have := HX.out; simp [intOf]; omega
  case rest =>
    obtain ⟨rfl, rfl⟩ := hcut
    go_upto_region 22 with (fail)
    obtain ⟨x, hx⟩ : ∃ x, x = (u * 4294967296 + u1) % D := ⟨_, rfl⟩
    have hxD : x < D := by rw [hx]; exact Nat.mod_lt _ (by omega)
    have ex := rest_eq (u := u) (u1 := u1) (D := D) HQ1.out.2.2.1 (by have := HV.out; omega) (by have := HV.out; omega)
    rw [← hx] at ex
    rw [ex]
    have HX := Lib.hid hx
    clear ex hx
    obtain ⟨qb, hqb⟩ : ∃ qb, qb = x / v1 := ⟨_, rfl⟩
    obtain ⟨rb, hrb⟩ : ∃ rb, rb = x % v1 := ⟨_, rfl⟩
    have hdm := Nat.div_add_mod x v1
    rw [← hqb, ← hrb, Nat.mul_comm] at hdm
    have hrl : rb < v1 := by rw [hrb]; exact Nat.mod_lt _ (by omega)
    obtain ⟨Q0, hQ0⟩ : ∃ Q0, Q0 = (x * 4294967296 + u0) / D := ⟨_, rfl⟩
    have hQl : Q0 < 4294967296 := by rw [hQ0, HV.out.1]; exact dig_lt (by have := HV.out; omega) (by omega)
    have hQf : Q0 ≤ qb := by rw [hQ0, HV.out.1, hqb]; exact dig_first (by omega) (by omega)
    have hUl : x < 18446744073709551616 := by have := HV.out; omega
    have hql : qb ≤ x := by rw [hqb]; exact Nat.div_le_self _ _
    have k0 : IntKind.u64.wrap ((x : Int) / (v1 : Int)) = (qb : Int) := by
      rw [show (x : Int) / (v1 : Int) = ((x / v1 : Nat) : Int) by rfl, ← hqb, wrap_u64_in (by omega) (by omega)]
    have k1 : IntKind.u64.wrap ((qb : Int) * (v1 : Int)) = (qb : Int) * (v1 : Int) := by
      rw [show (qb : Int) * (v1 : Int) = ((qb * v1 : Nat) : Int) by simp, wrap_u64_in (by omega) (by omega)]
    have k2 : IntKind.u64.wrap ((x : Int) - (qb : Int) * (v1 : Int)) = (rb : Int) := by
      rw [show (x : Int) - (qb : Int) * (v1 : Int) = (rb : Int) by rw [← hdm]; simp; omega, wrap_u64_in (by omega) (by omega)]
    have k3 : ((v1 : Int) == 0) = false := by simp; omega
    have HQ0 := Lib.hid (And.intro hdm (And.intro hrl (And.intro hQ0 (And.intro hQl hQf))))
    clear hUl hql hdm hrl hQ0 hQl hQf hqb hrb
    go_upto_block 2 with (fail)
    clear k0 k1 k2 k3
    go_cut [18, 16] (fun s1 s2 wx => s1 = .int .u64 (Q0 : Nat) ∧ w' = wx)
    case first =>
      go_wp2_with fail
      go_loop [18, 16] (fun s1 s2 => ∃ q r : Nat, s1 = .int .u64 (q : Nat) ∧ s2 = .int .u64 (r : Nat) ∧ q * v1 + r = x ∧ r < 4294967296 ∧ Q0 ≤ q ∧ q < 18446744073709551616) (fun s1 _ => (intOf s1).toNat)
      case atStart => exact ⟨qb, rb, rfl, rfl, HQ0.out.1, by have := HQ0.out.2.1; omega, HQ0.out.2.2.2.2, by
        have h1 := HQ0.out.1
        have h2 : qb ≤ qb * v1 := Nat.le_mul_of_pos_right _ (by omega)
        have := HV.out
        omega⟩
      case round =>
        obtain ⟨q, r, rfl, rfl, hqr, hr, hQ, hq64⟩ := hrel
        have hQl := HQ0.out.2.2.2.1
        have HH := Lib.hid hqr
        clear hqr
        have m1 : IntKind.u64.wrap (4294967296 * (r : Int)) = 4294967296 * (r : Int) := wrap_u64_in (by omega) (by omega)
        have m2 : IntKind.u64.wrap (4294967296 * (r : Int) + (u0 : Int)) = 4294967296 * (r : Int) + (u0 : Int) := wrap_u64_in (by omega) (by omega)
        have m4 : IntKind.u64.wrap ((r : Int) + (v1 : Int)) = (r : Int) + (v1 : Int) := wrap_u64_in (by omega) (by omega)
        by_cases hdone : q < 4294967296 ∧ q * v0 ≤ 4294967296 * r + u0
        · obtain ⟨c1, c2⟩ := hdone
          have eQ : q = Q0 := by
            have := dig_small HH.out c2 (by omega)
            rw [← HV.out.1, ← HQ0.out.2.2.1] at this
            omega
          obtain ⟨p, hp⟩ : ∃ p, p = q * v0 := ⟨_, rfl⟩
          rw [← hp] at c2
          have hpl : p < 18446744073709551616 := by omega
          have m3 : IntKind.u64.wrap ((q : Int) * (v0 : Int)) = (p : Int) := by
            rw [show (q : Int) * (v0 : Int) = ((q * v0 : Nat) : Int) by simp, ← hp, wrap_u64_in (by omega) (by omega)]
          have d5 : decide ((4294967296 : Int) ≤ (q : Int)) = false := by simp; omega
          have d6 : decide (4294967296 * (r : Int) + (u0 : Int) < (p : Int)) = false := by simp; omega
          have HP := Lib.hid (And.intro hp eQ)
          clear hp eQ hQ
          go_wp2_with fail
          go_meet
          exact ⟨by rw [HP.out.2], rfl⟩
        · have hQ1 : Q0 + 1 ≤ q := by
            by_cases c1 : q < 4294967296
            · have := dig_great HH.out (v0 := v0) (u1 := u0) (Nat.lt_of_not_le fun c => hdone ⟨c1, c⟩) (by omega)
              rw [← HV.out.1, ← HQ0.out.2.2.1] at this
              omega
            · omega
          obtain ⟨q', rfl⟩ : ∃ q', q = q' + 1 := ⟨q - 1, by omega⟩
          have hqr' : q' * v1 + (r + v1) = x := by have := HH.out; rw [Nat.succ_mul] at this; omega
          have HT := Lib.hid (And.intro hqr' hQ1)
          have m5 : IntKind.u64.wrap (((q' + 1 : Nat) : Int) - 1) = (q' : Int) := by rw [show ((q' + 1 : Nat) : Int) - 1 = (q' : Int) by omega, wrap_u64_in (by omega) (by omega)]
          have hhalf : ∀ c : 4294967296 ≤ r + v1, q' = Q0 := fun c => by
            have := dig_out hqr' (u1 := u0) (v0 := v0) (by have := HV.out; omega) v0l c
            rw [← HV.out.1, ← HQ0.out.2.2.1] at this
            omega
          have HD := Lib.hid (And.intro hdone hhalf)
          clear hdone hhalf hqr' hQ1 hQ
          obtain ⟨qx, hqx⟩ : ∃ qx : Nat, qx = q' + 1 := ⟨_, rfl⟩
          rw [← hqx] at m5 ⊢
          have HX := Lib.hid hqx
          clear hqx
          by_cases c1 : 4294967296 ≤ qx
          · have d5 : decide ((4294967296 : Int) ≤ (qx : Int)) = true := by simp; omega
            clear c1
            by_cases hov : 4294967296 ≤ r + v1
            · have d7 : decide ((4294967296 : Int) ≤ (r : Int) + (v1 : Int)) = true := by simp; omega
              have HO := Lib.hid (HD.out.2 hov)
              clear hov
              go_wp2_with fail
              go_meet
              exact ⟨by rw [HO.out], rfl⟩
            · have d7 : decide ((4294967296 : Int) ≤ (r : Int) + (v1 : Int)) = false := by simp; omega
              go_wp2_with fail
              go_round
              case rel => exact ⟨q', r + v1, rfl, by simp, HT.out.1, by omega, by have := HT.out.2; omega, by have := HX.out; omega⟩
              case measure => have := HX.out; simp [intOf]; omega
          · have c2 : 4294967296 * r + u0 < qx * v0 := Nat.lt_of_not_le fun c => HD.out.1 (by rw [← HX.out]; exact ⟨by omega, c⟩)
            have hpl : qx * v0 ≤ 4294967295 * 4294967295 := Nat.mul_le_mul (by omega) (by omega)
            obtain ⟨p, hp⟩ : ∃ p, p = qx * v0 := ⟨_, rfl⟩
            rw [← hp] at c2 hpl
            have m3 : IntKind.u64.wrap ((qx : Int) * (v0 : Int)) = (p : Int) := by
              rw [show (qx : Int) * (v0 : Int) = ((qx * v0 : Nat) : Int) by simp, ← hp, wrap_u64_in (by omega) (by omega)]
            have d5 : decide ((4294967296 : Int) ≤ (qx : Int)) = false := by simp; omega
            have d6 : decide (4294967296 * (r : Int) + (u0 : Int) < (p : Int)) = true := by simp; omega
            clear hp c1
            by_cases hov : 4294967296 ≤ r + v1
            · have d7 : decide ((4294967296 : Int) ≤ (r : Int) + (v1 : Int)) = true := by simp; omega
              have HO := Lib.hid (HD.out.2 hov)
              clear hov
              go_wp2_with fail
              go_meet
              exact ⟨by rw [HO.out], rfl⟩
            · have d7 : decide ((4294967296 : Int) ≤ (r : Int) + (v1 : Int)) = false := by simp; omega
              go_wp2_with fail
              go_round
              case rel => exact ⟨q', r + v1, rfl, by simp, HT.out.1, by omega, by have := HT.out.2; omega, by have := HX.out; omega⟩
              case measure => have := HX.out; simp [intOf]; omega
    case rest =>
      obtain ⟨rfl, rfl⟩ := hcut
      obtain ⟨R, hR⟩ : ∃ R, R = (x * 4294967296 + u0) % D := ⟨_, rfl⟩
      have ex := rest_eq (u := x) (u1 := u0) (D := D) HQ0.out.2.2.1 (by have := HV.out; omega) (by have := HV.out; omega)
      rw [← hR] at ex
      have hRD : R < D := by rw [hR]; exact Nat.mod_lt _ (by omega)
      have t1 := Nat.div_add_mod (u * 4294967296 + u1) D
      rw [← HQ1.out.2.2.1, ← HX.out, Nat.mul_comm] at t1
      have t2 := Nat.div_add_mod (x * 4294967296 + u0) D
      rw [← HQ0.out.2.2.1, ← hR, Nat.mul_comm] at t2
      have t3 : (h * 18446744073709551616 + l) * 2 ^ s = (u * 4294967296 + u1) * 4294967296 + u0 := by
        rw [HB.out.2, HV.out.2.1, Nat.add_mul]; omega
      obtain ⟨g1, g2⟩ := div_digits HB.out.1 (by omega) t3 t1 t2 hRD
      clear t1 t2 t3
      have hQ1 := HQ1.out.2.2.2.1
      have hQ0 := HQ0.out.2.2.2.1
      have q1 : IntKind.u64.wrap ((Q1 : Int) * 4294967296) = (Q1 : Int) * 4294967296 := wrap_u64_in (by omega) (by omega)
      have q2 : IntKind.u64.wrap ((Q1 : Int) * 4294967296 + (Q0 : Int)) = (Q1 : Int) * 4294967296 + (Q0 : Int) := wrap_u64_in (by omega) (by omega)
      have HG := Lib.hid (And.intro g1 g2)
      clear g1 g2 hR
      go_wp2_with fail
      go_ret2
      refine ⟨?_, Below.refl _ _⟩
      rw [← HG.out.1, ← HG.out.2]
      rw [show ((Q1 * 4294967296 + Q0 : Nat) : Int) = (Q1 : Int) * 4294967296 + (Q0 : Int) by simp, show ((R / 2 ^ s : Nat) : Int) = (R : Int) / 2 ^ s by simp]
      rfl
theorem div64_any (h l y : Nat) (hh : h < y) (hy' : y < 18446744073709551616) (hl : l < 18446744073709551616) (w : World) :
    Calls Try.prog 46 #[.int .u64 h, .int .u64 l, .int .u64 y] w (DivPost h l y w) := by
  rcases Nat.eq_zero_or_pos h with h0 | h0
  · subst h0; exact div64_zero l y (by omega) hy' hl w
  · exact div64_main h l y h0 hh hy' hl w
end Go.Proofs.Ythhgnngpaagagaa
