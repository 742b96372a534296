/-
  The contract of tidemillref07.Times for counts above nothing that do not overflow. (Printed by mk.py.)
-/
import Derived.Test.YthhgnngpaagagaaDoorLmB
import Derived.Test.YthhgnngpaagagaaDoorLmS
import Derived.Deep.DeepCutAuto
namespace Go.Proofs.YthhgnngpaagagaaDoor
open Go.RowKit
set_option linter.unusedVariables false
set_option linter.unusedSimpArgs false
theorem and_one_u64 (x : Nat) (h : x < 18446744073709551616) : bits .and .u64 (x : Int) 1 = ((x % 2 : Nat) : Int) := by
  show IntKind.u64.wrap ((BitVec.ofInt 64 (x : Int) &&& BitVec.ofInt 64 (((1 : Nat)) : Int)).toNat : Int) = _
  rw [BitVec.ofInt_natCast, BitVec.ofInt_natCast, BitVec.toNat_and, BitVec.toNat_ofNat, BitVec.toNat_ofNat, Nat.mod_eq_of_lt (show x < 2 ^ 64 from h), show 1 % 2 ^ 64 = 2 ^ 1 - 1 from rfl, Nat.and_two_pow_sub_one_eq_mod, IntKind.wrap_u64]
  omega
theorem tw_step (N i : Nat) : N / 2 ^ i = N / 2 ^ (i + 1) + N / 2 ^ (i + 1) + N / 2 ^ i % 2 := by
  have h : N / 2 ^ (i + 1) = N / 2 ^ i / 2 := by rw [Nat.pow_succ, Nat.div_div_eq_div_mul]
  rw [h]
  omega
theorem tw_bd {a : Int} (ha : I64 a) (q : Nat) (hq : q < 9223372036854775808) : S128 ((q : Int) * a) := by
  unfold I64 at ha
  have h1 : (q : Int) * a ≤ (q : Int) * 9223372036854775808 := Int.mul_le_mul_of_nonneg_left (by omega) (by omega)
  have h2 : (q : Int) * (-9223372036854775808) ≤ (q : Int) * a := Int.mul_le_mul_of_nonneg_left (by omega) (by omega)
  unfold S128
  omega
def TimesPost (v : Int) (w : World) (e : Ending) (w' : World) : Prop := e = .returned (.tuple #[.agg #[.int .i64 (lim (v) 0), .int .i64 (lim (v) 1), .int .i64 (lim (v) 2), .int .i64 (lim (v) 3), .int .i64 (lim (v) 4), .int .i64 (lim (v) 5), .int .i64 (lim (v) 6), .int .i64 (lim (v) 7)], .bool true]) ∧ Below w.heap.size w w'
theorem tm_post {v : Int} {f : Nat → Int} {w w' : World} (h : lim v = f) (hb : Below w.heap.size w w') : TimesPost v w (.returned (.tuple #[.agg #[.int .i64 (f 0), .int .i64 (f 1), .int .i64 (f 2), .int .i64 (f 3), .int .i64 (f 4), .int .i64 (f 5), .int .i64 (f 6), .int .i64 (f 7)], .bool true])) w' := by
  subst h
  exact ⟨rfl, hb⟩
theorem bodyPost_gen4 {P : Program} {f : Func} {post : Ending → World → Prop} {ex : Exit} {a : Act} {w : World} (S : World → Prop) (hS : S w) (h : ∀ w, S w → bodyPost P f post ex a w) : bodyPost P f post ex a w := h w hS
set_option maxRecDepth 100000 in
set_option maxHeartbeats 1500000 in
theorem rtimes_any (a : Int) (ha : I64 a) (N : Nat) (h0 : 0 < N) (hN : N < 9223372036854775808) (w : World) : Calls Tryd.prog 24 #[.agg #[.int .i64 (lim (a) 0), .int .i64 (lim (a) 1), .int .i64 (lim (a) 2), .int .i64 (lim (a) 3), .int .i64 (lim (a) 4), .int .i64 (lim (a) 5), .int .i64 (lim (a) 6), .int .i64 (lim (a) 7)], .int .i64 (N : Nat)] w (TimesPost ((N : Int) * a) w) := by
  have haS : S128 a := by unfold I64 at ha; unfold S128; omega
  obtain ⟨fa, hfa⟩ : ∃ f, f = lim a := ⟨_, rfl⟩
  rw [← hfa]
  obtain ⟨x, hx⟩ : ∃ x, x = w.heap.size := ⟨_, rfl⟩
  have o0 := Own.own3 w hx 33 #[.int .i64 (fa 0), .int .i64 (fa 1), .int .i64 (fa 2), .int .i64 (fa 3), .int .i64 (fa 4), .int .i64 (fa 5), .int .i64 (fa 6), .int .i64 (fa 7)] 33 #[.int .i64 0, .int .i64 0, .int .i64 0, .int .i64 0, .int .i64 0, .int .i64 0, .int .i64 0, .int .i64 0] 33 #[.int .i64 0, .int .i64 0, .int .i64 0, .int .i64 0, .int .i64 0, .int .i64 0, .int .i64 0, .int .i64 0]
  have HO := Lib.hid (And.intro hx (And.intro o0 (And.intro ha (And.intro haS hfa))))
  clear hx o0 ha haS hfa
  have d0 : ((N : Int) == 0) = false := by simp; omega
  have d1 : decide ((N : Int) < 0) = false := decide_eq_false (by omega)
  have ku : IntKind.u64.wrap (N : Int) = (N : Int) := by rw [IntKind.wrap_u64]; omega
  go_enter Tryd.func24, Tryd.ntmps24
  go_upto_region 8 with (fail)
  rw [← HO.out.1]
  refine wp_gen (Own w [(x, 33, #[.int .i64 (fa 0), .int .i64 (fa 1), .int .i64 (fa 2), .int .i64 (fa 3), .int .i64 (fa 4), .int .i64 (fa 5), .int .i64 (fa 6), .int .i64 (fa 7)]), (x + 1, 33, #[.int .i64 0, .int .i64 0, .int .i64 0, .int .i64 0, .int .i64 0, .int .i64 0, .int .i64 0, .int .i64 0]), (x + 1 + 1, 33, #[.int .i64 0, .int .i64 0, .int .i64 0, .int .i64 0, .int .i64 0, .int .i64 0, .int .i64 0, .int .i64 0])]) HO.out.2.1 ?_
  intro w0 hS
  obtain ⟨xo, hxo⟩ : ∃ v, v = x + 1 + 1 := ⟨_, rfl⟩
  rw [← hxo] at hS ⊢
  clear hxo
  have hl := @wpList_load_blk Tryd.prog _ _ _ _ (hS.get 0 rfl) 33 0 8 [.int .i64 (fa 0), .int .i64 (fa 1), .int .i64 (fa 2), .int .i64 (fa 3), .int .i64 (fa 4), .int .i64 (fa 5), .int .i64 (fa 6), .int .i64 (fa 7)] _ Tryd.underlying33 rfl rfl (by kernel_rfl) (fun j _ => by simp)
  obtain ⟨y, hy⟩ : ∃ y, y = w0.heap.size := ⟨_, rfl⟩
  have o1 := hS.alloc hy 33 #[.int .i64 (fa 0), .int .i64 (fa 1), .int .i64 (fa 2), .int .i64 (fa 3), .int .i64 (fa 4), .int .i64 (fa 5), .int .i64 (fa 6), .int .i64 (fa 7)]
  have HY := Lib.hid (And.intro hy o1)
  clear hy o1 hS ku
  go_wp2_with (refine hl rfl _ rfl rfl ?_)
  rw [← HY.out.1]
  go_loopw [10, 11] (fun s10 i wr => ∃ (m : Nat) (f : Nat → Int), m ≤ 64 ∧ i = .int .i64 ((m : Int) - 1) ∧ s10 = .bool true ∧ f = lim (((N / 2 ^ m : Nat) : Int) * a) ∧ Own w [(x, 33, #[.int .i64 (fa 0), .int .i64 (fa 1), .int .i64 (fa 2), .int .i64 (fa 3), .int .i64 (fa 4), .int .i64 (fa 5), .int .i64 (fa 6), .int .i64 (fa 7)]), (x + 1, 33, #[.int .i64 0, .int .i64 0, .int .i64 0, .int .i64 0, .int .i64 0, .int .i64 0, .int .i64 0, .int .i64 0]), (xo, 33, #[.int .i64 (f 0), .int .i64 (f 1), .int .i64 (f 2), .int .i64 (f 3), .int .i64 (f 4), .int .i64 (f 5), .int .i64 (f 6), .int .i64 (f 7)]), (y, 33, #[.int .i64 (fa 0), .int .i64 (fa 1), .int .i64 (fa 2), .int .i64 (fa 3), .int .i64 (fa 4), .int .i64 (fa 5), .int .i64 (fa 6), .int .i64 (fa 7)])] wr) (fun _ i _ => ((intOf i) + 1).toNat)
  case atStart => exact ⟨64, fun _ => 0, Nat.le_refl _, rfl, rfl, by
      rw [Nat.div_eq_of_lt (show N < 2 ^ 64 by omega)]
      funext i
      simp [lim_zero], HY.out.2⟩
  case round =>
    obtain ⟨m, f, hm, rfl, rfl, hf, hst⟩ := hrel
    clear hl HY d0 d1
    by_cases hlt : 0 < m
    · obtain ⟨i, rfl⟩ : ∃ i, m = i + 1 := ⟨m - 1, by omega⟩
      have ei : ((i + 1 : Nat) : Int) - 1 = (i : Int) := by omega
      rw [ei]
      have hi64 : i < 64 := by omega
      have hts := tw_step N i
      obtain ⟨b, hb⟩ : ∃ b, b = N / 2 ^ i % 2 := ⟨_, rfl⟩
      have hb2 : b < 2 := by omega
      obtain ⟨q, hq⟩ : ∃ q, q = N / 2 ^ (i + 1) := ⟨_, rfl⟩
      obtain ⟨p, hp⟩ : ∃ p, p = N / 2 ^ i := ⟨_, rfl⟩
      have hpN : p ≤ N := by rw [hp]; exact Nat.div_le_self _ _
      rw [← hq] at hf hts
      rw [← hp] at hts hb
      rw [← hb] at hts
      have kp : (N : Int) / 2 ^ i = (p : Int) := by rw [hp]; simp
      have kb : bits .and .u64 (p : Int) 1 = (b : Int) := by rw [and_one_u64 p (by omega), ← hb]
      clear hb
      have hqa : S128 ((q : Int) * a) := tw_bd HO.out.2.2.1 q (by omega)
      have hadd := radd_any ((q : Int) * a) ((q : Int) * a) hqa hqa
      unfold RaddPost at hadd
      have h2q : (q : Int) * a + (q : Int) * a = ((q + q : Nat) : Int) * a := by rw [← Int.add_mul]; simp
      rw [h2q, ← hf] at hadd
      have hS2 : S128 (((q + q : Nat) : Int) * a) := tw_bd HO.out.2.2.1 (q + q) (by omega)
      have hadd2 := radd_any (((q + q : Nat) : Int) * a) a hS2 HO.out.2.2.2.1
      unfold RaddPost at hadd2
      have h3q : ((q + q : Nat) : Int) * a + a = ((q + q + 1 : Nat) : Int) * a := by rw [Int.natCast_add (q + q) 1, Int.add_mul]; simp
      rw [h3q, ← HO.out.2.2.2.2] at hadd2
      generalize hf2 : lim (((q + q : Nat) : Int) * a) = f2 at hadd hadd2
      generalize hf3 : lim (((q + q + 1 : Nat) : Int) * a) = f3 at hadd2
      have HA := Lib.hid (And.intro hadd (And.intro hadd2 (And.intro hf2 (And.intro hf3 (And.intro hS2 (And.intro hts (And.intro hp hm)))))))
      have HW := Lib.hid (show wrap64 ((i : Int) - 1) = (i : Int) - 1 by unfold wrap64; omega)
      clear hadd hadd2 hf2 hf3 hS2 hts h2q h3q hqa hf hq hp hlt ei hm
      have hl := @wpList_load_blk Tryd.prog _ _ _ _ (hst.get 2 rfl) 33 0 8 [.int .i64 (f 0), .int .i64 (f 1), .int .i64 (f 2), .int .i64 (f 3), .int .i64 (f 4), .int .i64 (f 5), .int .i64 (f 6), .int .i64 (f 7)] _ Tryd.underlying33 rfl rfl (by kernel_rfl) (fun j _ => by simp)
      have H0 := Lib.hid hst
      clear hst
      go_wp2_with (refine hl rfl _ rfl rfl ?_)
      refine (HA.out.1 _).mono ?_
      rintro e w2 ⟨hcase, hb2'⟩
      rcases hcase with ⟨-, rfl⟩ | ⟨hno, -⟩
      · have h2 := H0.out.call hb2'
        have z2_0 := h2.cell 2 0 rfl rfl; have z2_1 := h2.cell 2 1 rfl rfl; have z2_2 := h2.cell 2 2 rfl rfl; have z2_3 := h2.cell 2 3 rfl rfl; have z2_4 := h2.cell 2 4 rfl rfl; have z2_5 := h2.cell 2 5 rfl rfl; have z2_6 := h2.cell 2 6 rfl rfl; have z2_7 := h2.cell 2 7 rfl rfl
        have zf2 := h2.free 2 rfl
        have HT := Lib.hid ((OwnR.of (n := 8) (h2.front 2 rfl) rfl).put [.int .i64 (f2 0), .int .i64 (f2 1), .int .i64 (f2 2), .int .i64 (f2 3), .int .i64 (f2 4), .int .i64 (f2 5), .int .i64 (f2 6), .int .i64 (f2 7)] rfl)
        clear h2 hb2' H0 hl
        go_upto_region 18 with (fail)
        refine wp_gen (Own w [(xo, 33, #[.int .i64 (f2 0), .int .i64 (f2 1), .int .i64 (f2 2), .int .i64 (f2 3), .int .i64 (f2 4), .int .i64 (f2 5), .int .i64 (f2 6), .int .i64 (f2 7)]), (x, 33, #[.int .i64 (fa 0), .int .i64 (fa 1), .int .i64 (fa 2), .int .i64 (fa 3), .int .i64 (fa 4), .int .i64 (fa 5), .int .i64 (fa 6), .int .i64 (fa 7)]), (x + 1, 33, #[.int .i64 0, .int .i64 0, .int .i64 0, .int .i64 0, .int .i64 0, .int .i64 0, .int .i64 0, .int .i64 0]), (y, 33, #[.int .i64 (fa 0), .int .i64 (fa 1), .int .i64 (fa 2), .int .i64 (fa 3), .int .i64 (fa 4), .int .i64 (fa 5), .int .i64 (fa 6), .int .i64 (fa 7)])]) HT.out ?_
        clear HT z2_0 z2_1 z2_2 z2_3 z2_4 z2_5 z2_6 z2_7 zf2
        intro w3 hS3
        by_cases hb1 : b = 1
        · subst hb1
          have z0_0 := hS3.cell 0 0 rfl rfl; have z0_1 := hS3.cell 0 1 rfl rfl; have z0_2 := hS3.cell 0 2 rfl rfl; have z0_3 := hS3.cell 0 3 rfl rfl; have z0_4 := hS3.cell 0 4 rfl rfl; have z0_5 := hS3.cell 0 5 rfl rfl; have z0_6 := hS3.cell 0 6 rfl rfl; have z0_7 := hS3.cell 0 7 rfl rfl; have z3_0 := hS3.cell 3 0 rfl rfl; have z3_1 := hS3.cell 3 1 rfl rfl; have z3_2 := hS3.cell 3 2 rfl rfl; have z3_3 := hS3.cell 3 3 rfl rfl; have z3_4 := hS3.cell 3 4 rfl rfl; have z3_5 := hS3.cell 3 5 rfl rfl; have z3_6 := hS3.cell 3 6 rfl rfl; have z3_7 := hS3.cell 3 7 rfl rfl
          have H3 := Lib.hid hS3
          clear hS3
          go_wp2_with fail
          refine (HA.out.2.1 _).mono ?_
          rintro e w4 ⟨hcase, hb4⟩
          rcases hcase with ⟨-, rfl⟩ | ⟨hno, -⟩
          · have h4 := H3.out.call hb4
            clear z0_0 z0_1 z0_2 z0_3 z0_4 z0_5 z0_6 z0_7
            have z0_0 := h4.cell 0 0 rfl rfl; have z0_1 := h4.cell 0 1 rfl rfl; have z0_2 := h4.cell 0 2 rfl rfl; have z0_3 := h4.cell 0 3 rfl rfl; have z0_4 := h4.cell 0 4 rfl rfl; have z0_5 := h4.cell 0 5 rfl rfl; have z0_6 := h4.cell 0 6 rfl rfl; have z0_7 := h4.cell 0 7 rfl rfl
            have zf0 := h4.free 0 rfl
            have HT := Lib.hid ((((OwnR.of (n := 8) h4 rfl).put [.int .i64 (f3 0), .int .i64 (f3 1), .int .i64 (f3 2), .int .i64 (f3 3), .int .i64 (f3 4), .int .i64 (f3 5), .int .i64 (f3 6), .int .i64 (f3 7)] rfl).front 2 rfl).front 2 rfl)
            clear h4 hb4 H3 z3_0 z3_1 z3_2 z3_3 z3_4 z3_5 z3_6 z3_7
            go_wp2_with fail
            go_roundw
            case rel =>
              refine ⟨i, f3, by omega, rfl, rfl, ?_, HT.out⟩
              rw [← HA.out.2.2.2.1, ← HA.out.2.2.2.2.2.2.1, HA.out.2.2.2.2.2.1]
            case measure => simp [intOf] <;> omega
          · exact absurd (tw_bd HO.out.2.2.1 (q + q + 1) (by have := HA.out.2.2.2.2.2.1; omega)) hno
        · obtain rfl : b = 0 := by omega
          have H3 := Lib.hid ((hS3.front 2 rfl).front 2 rfl)
          clear hS3
          go_wp2_with fail
          go_roundw
          case rel =>
            refine ⟨i, f2, by omega, rfl, rfl, ?_, H3.out⟩
            rw [← HA.out.2.2.1, ← HA.out.2.2.2.2.2.2.1, HA.out.2.2.2.2.2.1]
            rfl
          case measure => simp [intOf] <;> omega
      · exact absurd HA.out.2.2.2.2.1 hno
    · obtain rfl : m = 0 := by omega
      have e0 : ((0 : Nat) : Int) - 1 = -1 := by omega
      rw [e0]
      rw [show N / 2 ^ 0 = N by simp] at hf
      have hl0 := @wpList_load_blk Tryd.prog _ _ _ _ (hst.get 2 rfl) 33 0 8 [.int .i64 (f 0), .int .i64 (f 1), .int .i64 (f 2), .int .i64 (f 3), .int .i64 (f 4), .int .i64 (f 5), .int .i64 (f 6), .int .i64 (f 7)] _ Tryd.underlying33 rfl rfl (by kernel_rfl) (fun j _ => by simp)
      have z1_0 := hst.cell 1 0 rfl rfl; have z1_1 := hst.cell 1 1 rfl rfl; have z1_2 := hst.cell 1 2 rfl rfl; have z1_3 := hst.cell 1 3 rfl rfl; have z1_4 := hst.cell 1 4 rfl rfl; have z1_5 := hst.cell 1 5 rfl rfl; have z1_6 := hst.cell 1 6 rfl rfl; have z1_7 := hst.cell 1 7 rfl rfl
      have zf1 := hst.free 1 rfl
      have HT := Lib.hid (And.intro hf ((OwnR.of (n := 8) (hst.front 1 rfl) rfl).put [.int .i64 (f 0), .int .i64 (f 1), .int .i64 (f 2), .int .i64 (f 3), .int .i64 (f 4), .int .i64 (f 5), .int .i64 (f 6), .int .i64 (f 7)] rfl))
      clear hst hf hlt
      go_wp2_with (refine hl0 rfl _ rfl rfl ?_)
      refine bodyPost_gen4 (Own w [(x + 1, 33, #[.int .i64 (f 0), .int .i64 (f 1), .int .i64 (f 2), .int .i64 (f 3), .int .i64 (f 4), .int .i64 (f 5), .int .i64 (f 6), .int .i64 (f 7)]), (x, 33, #[.int .i64 (fa 0), .int .i64 (fa 1), .int .i64 (fa 2), .int .i64 (fa 3), .int .i64 (fa 4), .int .i64 (fa 5), .int .i64 (fa 6), .int .i64 (fa 7)]), (xo, 33, #[.int .i64 (f 0), .int .i64 (f 1), .int .i64 (f 2), .int .i64 (f 3), .int .i64 (f 4), .int .i64 (f 5), .int .i64 (f 6), .int .i64 (f 7)]), (y, 33, #[.int .i64 (fa 0), .int .i64 (fa 1), .int .i64 (fa 2), .int .i64 (fa 3), .int .i64 (fa 4), .int .i64 (fa 5), .int .i64 (fa 6), .int .i64 (fa 7)])]) (HT.out.2) ?_
      intro w9 hS9
      exact bodyPost_ret (v := .tuple #[.agg #[.int .i64 (f 0), .int .i64 (f 1), .int .i64 (f 2), .int .i64 (f 3), .int .i64 (f 4), .int .i64 (f 5), .int .i64 (f 6), .int .i64 (f 7)], .bool true]) (results_blk2 (P := Tryd.prog) Tryd.results24 rfl (hS9.get 0 rfl) 8 [.int .i64 (f 0), .int .i64 (f 1), .int .i64 (f 2), .int .i64 (f 3), .int .i64 (f 4), .int .i64 (f 5), .int .i64 (f 6), .int .i64 (f 7)] _ Tryd.underlying33 rfl rfl (by kernel_rfl) (fun j _ => by simp)) rfl (tm_post HT.out.1.symm hS9.bel)
end Go.Proofs.YthhgnngpaagagaaDoor
