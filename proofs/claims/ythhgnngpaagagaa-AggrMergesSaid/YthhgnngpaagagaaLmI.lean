/-
  The contract of tidemillref08.Mean. (Printed by mk.py.)
-/
import Derived.Test.YthhgnngpaagagaaLmH
import Derived.Test.YthhgnngpaagagaaLmC
import Derived.Test.YthhgnngpaagagaaAgP
namespace Go.Proofs.Ythhgnngpaagagaa
open Go.RowKit
set_option linter.unusedVariables false
set_option linter.unusedSimpArgs false
set_option maxRecDepth 100000 in
set_option maxHeartbeats 8000000 in
theorem rmean_any (a : Ag) (ha : AgOk a) (w : World) : Calls Try.prog 15 #[.agg #[.int .i64 a.n, .int .i64 (lim (a.s) 0), .int .i64 (lim (a.s) 1), .int .i64 (lim (a.s) 2), .int .i64 (lim (a.s) 3), .int .i64 (lim (a.s) 4), .int .i64 (lim (a.s) 5), .int .i64 (lim (a.s) 6), .int .i64 (lim (a.s) 7), .int .i64 a.lo, .int .i64 a.hi, .int .i64 a.f.t, .int .i64 a.f.v, .int .i64 a.f.s, .int .i64 a.l.t, .int .i64 a.l.v, .int .i64 a.l.s]] w (MeanPost a w) := by
  have hdv := rdiv_any a.s a.n ha.2.1
  generalize lim a.s = fa at hdv ⊢
  obtain ⟨x, hx⟩ : ∃ x, x = w.heap.size := ⟨_, rfl⟩
  have o0 := Own.own1 w hx 40 #[.int .i64 a.n, .int .i64 (fa 0), .int .i64 (fa 1), .int .i64 (fa 2), .int .i64 (fa 3), .int .i64 (fa 4), .int .i64 (fa 5), .int .i64 (fa 6), .int .i64 (fa 7), .int .i64 a.lo, .int .i64 a.hi, .int .i64 a.f.t, .int .i64 a.f.v, .int .i64 a.f.s, .int .i64 a.l.t, .int .i64 a.l.v, .int .i64 a.l.s]
  have HO := Lib.hid (And.intro hx (And.intro o0 (And.intro hdv ha)))
  clear hx o0 hdv ha
  go_enter Try.func15, Try.ntmps15
  go_upto_region 1 with (fail)
  rw [← HO.out.1]
  refine wp_gen (Own w [(x, 40, #[.int .i64 a.n, .int .i64 (fa 0), .int .i64 (fa 1), .int .i64 (fa 2), .int .i64 (fa 3), .int .i64 (fa 4), .int .i64 (fa 5), .int .i64 (fa 6), .int .i64 (fa 7), .int .i64 a.lo, .int .i64 a.hi, .int .i64 a.f.t, .int .i64 a.f.v, .int .i64 a.f.s, .int .i64 a.l.t, .int .i64 a.l.v, .int .i64 a.l.s])]) HO.out.2.1 ?_
  intro w0 hS
  have z0_0 := hS.cell 0 0 rfl rfl
  have hld := @wpList_load_blk Try.prog _ _ _ _ (hS.get 0 rfl) 38 1 8 [.int .i64 (fa 0), .int .i64 (fa 1), .int .i64 (fa 2), .int .i64 (fa 3), .int .i64 (fa 4), .int .i64 (fa 5), .int .i64 (fa 6), .int .i64 (fa 7)] _ Try.underlying38 rfl rfl (by kernel_rfl) (fun j hj => by rcases (show j = 0 ∨ j = 1 ∨ j = 2 ∨ j = 3 ∨ j = 4 ∨ j = 5 ∨ j = 6 ∨ j = 7 by omega) with rfl | rfl | rfl | rfl | rfl | rfl | rfl | rfl <;> rfl)
  have HS := Lib.hid hS
  clear hS
  by_cases hn : a.n ≤ 0
  · have HM := Lib.hid (show meanA a = (0, false) by unfold meanA; rw [if_pos hn])
    have d : decide (a.n ≤ 0) = true := by simp [hn]
    clear hn hld
    go_wp2_with fail
    go_ret2
    exact ⟨ret_pair (by rw [HM.out]) (by rw [HM.out]), HS.out.bel⟩
  · have hq := quo_s HO.out.2.2.2.2.1 (show 0 < a.n by omega)
    have HM := Lib.hid (show meanA a = _ by unfold meanA; rw [if_neg hn])
    have d : decide (a.n ≤ 0) = false := by simp; omega
    have HC := Lib.hid (And.intro (show 0 < a.n by omega) (show a.n < 9223372036854775808 by have := HO.out.2.2.2.1; unfold I64 at this; omega))
    clear hn
    go_wp2_with (refine hld rfl _ rfl rfl ?_)
    refine (HO.out.2.2.1 HC.out.1 HC.out.2 _).mono ?_
    rintro e w1 ⟨rfl, hb⟩
    clear hld z0_0
    obtain ⟨q, hqq⟩ : ∃ q, q = a.s / a.n := ⟨_, rfl⟩
    rw [← hqq] at hq HM ⊢
    clear hqq
    have hwh := whole_any q hq
    have HQ := Lib.hid hq
    generalize lim q = fq at hwh ⊢
    obtain ⟨y, hy⟩ : ∃ y, y = w1.heap.size := ⟨_, rfl⟩
    have h1 := (HS.out.call hb).alloc hy 38 #[.int .i64 (fq 0), .int .i64 (fq 1), .int .i64 (fq 2), .int .i64 (fq 3), .int .i64 (fq 4), .int .i64 (fq 5), .int .i64 (fq 6), .int .i64 (fq 7)]
    have H1 := Lib.hid (And.intro hy (h1.front 1 rfl))
    have HW := Lib.hid hwh
    clear hwh hq hb h1 hy
    go_upto_region 4 with (fail)
    rw [← H1.out.1]
    refine wp_gen (Own w [(y, 38, #[.int .i64 (fq 0), .int .i64 (fq 1), .int .i64 (fq 2), .int .i64 (fq 3), .int .i64 (fq 4), .int .i64 (fq 5), .int .i64 (fq 6), .int .i64 (fq 7)]), (x, 40, #[.int .i64 a.n, .int .i64 (fa 0), .int .i64 (fa 1), .int .i64 (fa 2), .int .i64 (fa 3), .int .i64 (fa 4), .int .i64 (fa 5), .int .i64 (fa 6), .int .i64 (fa 7), .int .i64 a.lo, .int .i64 a.hi, .int .i64 a.f.t, .int .i64 a.f.v, .int .i64 a.f.s, .int .i64 a.l.t, .int .i64 a.l.v, .int .i64 a.l.s])]) H1.out.2 ?_
    intro w2 hS2
    have hld := @wpList_load_blk Try.prog _ _ _ _ (hS2.get 0 rfl) 38 0 8 [.int .i64 (fq 0), .int .i64 (fq 1), .int .i64 (fq 2), .int .i64 (fq 3), .int .i64 (fq 4), .int .i64 (fq 5), .int .i64 (fq 6), .int .i64 (fq 7)] _ Try.underlying38 rfl rfl (by kernel_rfl) (fun j _ => by simp)
    have H2 := Lib.hid hS2
    clear hS2 H1
    go_wp2_with (refine hld rfl _ rfl rfl ?_)
    refine (HW.out _).mono ?_
    rintro e w3 ⟨rfl, hb3⟩
    have H3 := Lib.hid (H2.out.call hb3)
    clear hb3 hld H2 HW
    have hlo := loOf_lt q
    have hl0 := loOf_nonneg q
    have hhl := hilo q
    have HV := Lib.hid (And.intro hlo (And.intro hl0 hhl))
    obtain ⟨h, hh⟩ : ∃ h, h = hiOf q := ⟨_, rfl⟩
    obtain ⟨l, hl⟩ : ∃ l, l = loOf q := ⟨_, rfl⟩
    rw [← hh, ← hl]
    rw [← hh, ← hl] at hhl
    rw [← hl] at hlo hl0
    clear hh hl
    have HHL := Lib.hid hhl
    have hI : (-9223372036854775808 ≤ q ∧ q ≤ 9223372036854775807) ↔ ((h = 0 ∧ l < 9223372036854775808) ∨ (h = -1 ∧ 9223372036854775808 ≤ l)) := by omega
    have HI := Lib.hid hI
    have hw : (-9223372036854775808 ≤ q ∧ q ≤ 9223372036854775807) → IntKind.i64.wrap l = q := fun hq => by rw [IntKind.wrap_i64]; omega
    have HWR := Lib.hid hw
    have HL := Lib.hid (And.intro hlo hl0)
    clear hw hI hhl hlo hl0
    by_cases h0 : h = 0
    · subst h0
      by_cases c : l < 9223372036854775808
      · have k1 : decide (l < 9223372036854775808) = true := by simp [c]
        have e5 : IntKind.i64.wrap l = q := HWR.out (HI.out.2 (by omega))
        have HY := Lib.hid (HI.out.2 (by omega))
        clear c
        go_wp2_with fail
        go_ret2
        exact ⟨ret_pair (by rw [HM.out, if_pos HY.out]) (by rw [HM.out]; simp only [HY.out]; rfl), H3.out.bel⟩
      · have k1 : decide (l < 9223372036854775808) = false := decide_eq_false c
        have HY := Lib.hid (show ¬ (-9223372036854775808 ≤ q ∧ q ≤ 9223372036854775807) from fun hk => by have := HI.out.1 hk; omega)
        clear c
        go_wp2_with fail
        go_ret2
        exact ⟨ret_pair (by rw [HM.out, if_neg HY.out]) (by rw [HM.out]; simp only [HY.out]; rfl), H3.out.bel⟩
    · have k0 : (h == 0) = false := by simp [h0]
      by_cases h1 : h = -1
      · subst h1
        by_cases c : l < 9223372036854775808
        · have k1 : decide (9223372036854775808 ≤ l) = false := by simp; omega
          have HY := Lib.hid (show ¬ (-9223372036854775808 ≤ q ∧ q ≤ 9223372036854775807) from fun hk => by have := HI.out.1 hk; omega)
          clear c h0
          go_wp2_with fail
          go_ret2
          exact ⟨ret_pair (by rw [HM.out, if_neg HY.out]) (by rw [HM.out]; simp only [HY.out]; rfl), H3.out.bel⟩
        · have k1 : decide (9223372036854775808 ≤ l) = true := by simp; omega
          have e5 : IntKind.i64.wrap l = q := HWR.out (HI.out.2 (by omega))
          have HY := Lib.hid (HI.out.2 (by omega))
          clear c h0
          go_wp2_with fail
          go_ret2
          exact ⟨ret_pair (by rw [HM.out, if_pos HY.out]) (by rw [HM.out]; simp only [HY.out]; rfl), H3.out.bel⟩
      · have k1 : (h == -1) = false := by simp [h1]
        have HY := Lib.hid (show ¬ (-9223372036854775808 ≤ q ∧ q ≤ 9223372036854775807) from fun hk => by have := HI.out.1 hk; omega)
        clear h0 h1
        go_wp2_with fail
        go_ret2
        exact ⟨ret_pair (by rw [HM.out, if_neg HY.out]) (by rw [HM.out]; simp only [HY.out]; rfl), H3.out.bel⟩
end Go.Proofs.Ythhgnngpaagagaa
