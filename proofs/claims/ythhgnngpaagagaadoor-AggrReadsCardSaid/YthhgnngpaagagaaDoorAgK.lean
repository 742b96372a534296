/-
  The contracts of wide's signed and Times, where the product fits. (Printed by mk.py.)
-/
import Derived.Test.YthhgnngpaagagaaDoorAgJ
import Derived.Deep.DeepCutAuto
namespace Go.Proofs.YthhgnngpaagagaaDoor
open Go.RowKit
set_option linter.unusedVariables false
set_option linter.unusedSimpArgs false
def sgn (neg : Bool) (m : Int) : Int := if neg then -m else m
def SignedPost (t : Int) (w : World) (e : Ending) (w' : World) : Prop := e = .returned (.tuple #[.agg #[.int .i64 (hiOf t), .int .u64 (loOf t)], .bool true]) ∧ Below w.heap.size w w'
set_option maxRecDepth 100000 in
set_option maxHeartbeats 4000000 in
theorem signed_ok (m : Int) (neg : Bool) (h0 : 0 ≤ m) (h1 : m < 170141183460469231731687303715884105728) (hn : neg = true → 0 < m) (w : World) :
    Calls Tryd.prog 43 #[.agg #[.int .u64 (hiOf m), .int .u64 (loOf m)], .bool neg] w (SignedPost (sgn neg m) w) := by
  obtain ⟨x, hx⟩ : ∃ x, x = w.heap.size := ⟨_, rfl⟩
  have c1 : IntKind.i64.wrap (hiOf m) = hiOf m := by
    unfold hiOf
    simp [IntKind.wrap, IntKind.signed, IntKind.bits]
    omega
  have o0 : Own w [(x, 87, #[.int .u64 (hiOf m), .int .u64 (loOf m)]), (x + 1, 24, #[.int .i64 0, .int .u64 0]), (x + 1 + 1, 24, #[.int .i64 (hiOf m), .int .u64 (loOf m)])] _ := Own.own3 w hx _ _ _ _ _ _
  have HO := Lib.hid (And.intro hx (And.intro o0 (And.intro h0 (And.intro h1 hn))))
  clear hx o0 h0 h1 hn
  go_enter Tryd.func43, Tryd.ntmps43
  go_upto_if 13 with (fail)
  rw [← HO.out.1]
  clear c1
  refine wp_gen (Own w [(x, 87, #[.int .u64 (hiOf m), .int .u64 (loOf m)]), (x + 1, 24, #[.int .i64 0, .int .u64 0]), (x + 1 + 1, 24, #[.int .i64 (hiOf m), .int .u64 (loOf m)])]) HO.out.2.1 ?_
  intro w2 hS
  obtain ⟨t, ht⟩ : ∃ t, t = sgn neg m := ⟨_, rfl⟩
  go_cut [] (fun wx => Own w [(x, 87, #[.int .u64 (hiOf m), .int .u64 (loOf m)]), (x + 1, 24, #[.int .i64 0, .int .u64 0]), (x + 1 + 1, 24, #[.int .i64 (hiOf t), .int .u64 (loOf t)])] wx)
  case first =>
    cases neg
    · have HS := Lib.hid (And.intro hS ht)
      clear hS ht
      go_wp2_with fail
      go_meet
      have e : t = m := HS.out.2
      rw [e]
      exact HS.out.1
    · have z0_0 := hS.cell 0 0 rfl rfl; have z0_1 := hS.cell 0 1 rfl rfl; have z1_0 := hS.cell 1 0 rfl rfl; have z1_1 := hS.cell 1 1 rfl rfl; have z2_0 := hS.cell 2 0 rfl rfl; have z2_1 := hS.cell 2 1 rfl rfl
      have HS := Lib.hid (And.intro hS ht)
      clear hS ht
      go_wp2_with fail
      refine (minus_any m (by have := HO.out; unfold S128; omega) _).mono ?_
      rintro e w3 ⟨rfl, hb⟩
      have e1 : wrp (-m) = t := by
        have := HO.out
        rw [wrp_id (by unfold S128; omega)]
        exact HS.out.2.symm
      rw [e1]
      have hS := (HS.out.1.call hb).front 2 rfl
      clear z0_0 z0_1 z1_0 z1_1 z2_0 z2_1 e1 hb
      have z0_0 := hS.cell 0 0 rfl rfl; have z0_1 := hS.cell 0 1 rfl rfl; have z1_0 := hS.cell 1 0 rfl rfl; have z1_1 := hS.cell 1 1 rfl rfl; have z2_0 := hS.cell 2 0 rfl rfl; have z2_1 := hS.cell 2 1 rfl rfl
      have zf0 := hS.free 0 rfl
      have HP := Lib.hid (((OwnR.of hS rfl).put [.int .i64 (hiOf t), .int .u64 (loOf t)] rfl))
      clear hS
      go_wp2_with fail
      go_meet
      exact ⟨HP.out.bel, fun b hb => HP.out.blk b (by simp at hb ⊢; rcases hb with h | h | h <;> simp [h]), by
        have := HP.out.nd
        simp at this ⊢
        omega⟩
  case rest =>
    have hS := hcut
    have c2 : t = 0 ∨ (t ≠ 0 ∧ neg = decide (hiOf t < 0)) := by
      have := HO.out.2.2
      rw [ht]
      cases neg
      · show m = 0 ∨ (m ≠ 0 ∧ false = decide (hiOf m < 0))
        by_cases h : m = 0
        · exact .inl h
        · refine .inr ⟨h, ?_⟩
          simp [hi_neg]; omega
      · have := this.2.2 rfl
        show -m = 0 ∨ (-m ≠ 0 ∧ true = decide (hiOf (-m) < 0))
        refine .inr ⟨by omega, ?_⟩
        simp [hi_neg]; omega
    have HT := Lib.hid ht
    clear ht
    have hS := hS.front 1 rfl
    have z0_0 := hS.cell 0 0 rfl rfl; have z0_1 := hS.cell 0 1 rfl rfl; have z1_0 := hS.cell 1 0 rfl rfl; have z1_1 := hS.cell 1 1 rfl rfl; have z2_0 := hS.cell 2 0 rfl rfl; have z2_1 := hS.cell 2 1 rfl rfl
    have zf0 := hS.free 0 rfl
    have HS := Lib.hid hS
    clear hS
    rcases c2 with c2 | ⟨c2, c3⟩
    · have d1 : hiOf t = 0 := by rw [c2]; rfl
      have d2 : loOf t = 0 := by rw [c2]; rfl
      clear c2
      go_wp2_with fail
      have r := (OwnR.of HS.out rfl).put [.int .i64 0, .int .u64 0] rfl
      exact bodyPost_ret (v := .tuple #[.agg #[.int .i64 0, .int .u64 0], .bool true]) (by simp [results, Tryd.results43, go_sem, z0_0, z0_1]) rfl ⟨by rw [← HT.out, d1, d2], r.bel⟩
    · subst c3
      by_cases d1 : hiOf t = 0
      · have d2 : ¬ loOf t = 0 := fun h => c2 (by rw [← hilo t, d1, h]; rfl)
        have D1 := Lib.hid d1
        have d1' : (hiOf t == 0) = true := by simp [d1]
        clear c2
        go_wp2_with fail
        refine (below_any _ _ _).mono ?_
        rintro e w4 ⟨rfl, hb⟩
        have hS := HS.out.call hb
        clear z0_0 z0_1 z1_0 z1_1 z2_0 z2_1 zf0
        have z0_0 := hS.cell 0 0 rfl rfl; have z0_1 := hS.cell 0 1 rfl rfl; have z1_0 := hS.cell 1 0 rfl rfl; have z1_1 := hS.cell 1 1 rfl rfl; have z2_0 := hS.cell 2 0 rfl rfl; have z2_1 := hS.cell 2 1 rfl rfl
        have zf0 := hS.free 0 rfl
        have HU := Lib.hid hS
        clear hS hb
        go_wp2_with fail
        have r := (OwnR.of HU.out rfl).put [.int .i64 0, .int .u64 (loOf t)] rfl
        exact bodyPost_ret (v := .tuple #[.agg #[.int .i64 0, .int .u64 (loOf t)], .bool true]) (by simp [results, Tryd.results43, go_sem, z0_0, z0_1]) rfl ⟨by rw [← HT.out, d1], r.bel⟩
      · clear c2
        go_wp2_with fail
        refine (below_any _ _ _).mono ?_
        rintro e w4 ⟨rfl, hb⟩
        have hS := HS.out.call hb
        clear z0_0 z0_1 z1_0 z1_1 z2_0 z2_1 zf0
        have z0_0 := hS.cell 0 0 rfl rfl; have z0_1 := hS.cell 0 1 rfl rfl; have z1_0 := hS.cell 1 0 rfl rfl; have z1_1 := hS.cell 1 1 rfl rfl; have z2_0 := hS.cell 2 0 rfl rfl; have z2_1 := hS.cell 2 1 rfl rfl
        have zf0 := hS.free 0 rfl
        have HU := Lib.hid hS
        clear hS hb
        generalize decide (hiOf t < 0) = b at *
        have db : (b != b) = false := by simp
        go_wp2_with fail
        have r := (OwnR.of HU.out rfl).put [.int .i64 (hiOf t), .int .u64 (loOf t)] rfl
        exact bodyPost_ret (v := .tuple #[.agg #[.int .i64 (hiOf t), .int .u64 (loOf t)], .bool true]) (by simp [results, Tryd.results43, go_sem, z0_0, z0_1]) rfl ⟨by rw [HT.out], r.bel⟩
theorem sgn_t {s n : Int} (h : s < 0) : sgn true (absI s * n) = s * n := by
  unfold absI
  rw [if_pos h]
  show -(-s * n) = s * n
  rw [Int.neg_mul, Int.neg_neg]
theorem sgn_f {s n : Int} (h : ¬ s < 0) : sgn false (absI s * n) = s * n := by
  unfold absI
  rw [if_neg h]
  rfl
theorem index2 (a b : Value) (w : World) : (Instr.index 87 (.agg #[a, b]) (.int .i64 1)).run Tryd.prog w = .ok b w := by kernel_rfl
set_option maxRecDepth 100000 in
set_option maxHeartbeats 4000000 in
theorem times_ok (s n : Int) (hs : I64 s) (h0 : 0 < n) (h1 : n ≤ 4611686018427387904) (w : World) :
    Calls Tryd.prog 21 #[.agg #[.int .i64 (hiOf s), .int .u64 (loOf s)], .int .i64 n] w (SignedPost (s * n) w) := by
  obtain ⟨x, hx⟩ : ∃ x, x = w.heap.size := ⟨_, rfl⟩
  have o0 : Own w [(x, 24, #[.int .i64 (hiOf s), .int .u64 (loOf s)]), (x + 1, 24, #[.int .i64 0, .int .u64 0])] _ := Own.own2 w hx _ _ _ _
  have hs1 : S128 s := by unfold I64 at hs; unfold S128; omega
  have hn1 : S128 n := by unfold S128; omega
  have HO := Lib.hid (And.intro hx (And.intro o0 (And.intro hs (And.intro hs1 (And.intro hn1 (And.intro h0 h1))))))
  clear hx o0 hs hs1 hn1
  go_enter Tryd.func21, Tryd.ntmps21
  go_wp2_with fail
  refine (amount_any s HO.out.2.2.2.1 _).mono ?_
  rintro e w1 ⟨rfl, hb1⟩
  have hS := HO.out.2.1.call hb1
  have HS := Lib.hid hS
  clear hS hb1
  go_wp2_with fail
  refine (wideOf_any n (by omega) _).mono ?_
  rintro e w2 ⟨rfl, hb2⟩
  have hS := HS.out.call hb2
  clear HS
  have HS := Lib.hid hS
  clear hS hb2
  go_wp2_with fail
  refine (amount_any n HO.out.2.2.2.2.1 _).mono ?_
  rintro e w3 ⟨rfl, hb3⟩
  have hS := HS.out.call hb3
  clear HS
  rw [show absI n = n by unfold absI; rw [if_neg (by omega)]]
  obtain ⟨y, hy⟩ : ∃ y, y = w3.heap.size := ⟨_, rfl⟩
  have hS := hS.alloc hy 87 #[.int .u64 (hiOf (absI s)), .int .u64 (loOf (absI s))]
  have HS := Lib.hid (And.intro hy hS)
  clear hS hb3 hy
  have hix := fun a b w => index2 a b w
  go_upto_region 2 with (fail)
  rw [← HO.out.1, ← HS.out.1]
  refine wp_gen (Own w [(x, 24, #[.int .i64 (hiOf s), .int .u64 (loOf s)]), (x + 1, 24, #[.int .i64 0, .int .u64 0]), (y, 87, #[.int .u64 (hiOf (absI s)), .int .u64 (loOf (absI s))])]) HS.out.2 ?_
  clear HS
  intro w4 hS
  obtain ⟨m, hm⟩ : ∃ m, m = absI s * n := ⟨_, rfl⟩
  have hs := HO.out.2.2.1
  unfold I64 at hs
  have a0 : 0 ≤ absI s := by unfold absI; split <;> omega
  have a1 : absI s ≤ 9223372036854775808 := by unfold absI; split <;> omega
  have e1 : hiOf (absI s) = 0 := by unfold hiOf; omega
  have e2 : loOf (absI s) = absI s := by unfold loOf; omega
  have e4 : loOf n = n := by unfold loOf; omega
  have m0 : 0 ≤ m := by rw [hm]; exact Int.mul_nonneg a0 (by omega)
  have m1 : m ≤ 9223372036854775808 * 4611686018427387904 := by rw [hm]; exact Int.mul_le_mul a1 h1 (by omega) (by omega)
  have m2 : 0 ≤ hiOf m := by unfold hiOf; omega
  have m3 : hiOf m < 18446744073709551616 := by unfold hiOf; omega
  have m4 : s < 0 → 0 < m := fun h => by rw [hm]; exact Int.mul_pos (by unfold absI; rw [if_pos h]; omega) h0
  have m5 : s < 0 → sgn true m = s * n := fun h => by rw [hm]; exact sgn_t h
  have m6 : ¬ s < 0 → sgn false m = s * n := fun h => by rw [hm]; exact sgn_f h
  rw [e1, e2] at hS
  rw [e1, e2, e4]
  clear e1 e2 e4
  have ad := add64_0 0 (hiOf m) (by omega) m2
  rw [show (0 + hiOf m) % 18446744073709551616 = hiOf m by omega, show (0 + hiOf m) / 18446744073709551616 = 0 by omega] at ad
  have z0_0 := hS.cell 0 0 rfl rfl; have z0_1 := hS.cell 0 1 rfl rfl; have z1_0 := hS.cell 1 0 rfl rfl; have z1_1 := hS.cell 1 1 rfl rfl; have z2_0 := hS.cell 2 0 rfl rfl; have z2_1 := hS.cell 2 1 rfl rfl
  have zf1 := hS.free 1 rfl
  have HM := Lib.hid (And.intro hm (And.intro m0 (And.intro m1 (And.intro m4 (And.intro m5 m6)))))
  have HS := Lib.hid hS
  clear hS hm m0 m1 m4 m5 m6 hs m2 m3 hix
  go_wp2_with fail
  refine (mul64_any 0 n (by omega) (by omega) (by omega) (by omega) _).mono ?_
  rintro e w5 ⟨rfl, rfl⟩
  rw [Int.zero_mul, show hiOf 0 = 0 from rfl, show loOf 0 = 0 from rfl]
  go_wp2_with fail
  refine (mul64_any (absI s) n a0 (by omega) (by omega) (by omega) _).mono ?_
  rintro e w5 ⟨rfl, rfl⟩
  rw [← HM.out.1]
  clear a0 a1
  go_wp2_with (simp only [ad])
  refine (below_any _ _ _).mono ?_
  rintro e w5 ⟨rfl, hb5⟩
  have hS := (HS.out.call hb5).front 1 rfl
  clear z0_0 z0_1 z1_0 z1_1 z2_0 z2_1 zf1 ad HS
  have d1 : decide (n < 0) = false := by simp; omega
  by_cases hneg : s < 0
  · have d0 : decide (hiOf s < 0) = true := by simp [hi_neg, hneg]
    rw [d0]
    have HS := Lib.hid hS
    have hm := HM.out.2.2.2.1 hneg
    clear hS hb5 d0
    by_cases g1 : hiOf m = 0
    · have g2 : ¬ loOf m = 0 := fun h => by have := hilo m; rw [g1, h] at this; omega
      have g3 : (hiOf m != 0) = false := by simp [g1]
      have g4 : (loOf m != 0) = true := by simp [g2]
      clear g1 g2 hm
      go_wp2_with fail
      refine (signed_ok m true HM.out.2.1 (by have := HM.out.2.2.1; omega) (fun _ => HM.out.2.2.2.1 hneg) _).mono ?_
      rw [HM.out.2.2.2.2.1 hneg]
      rintro e w6 ⟨rfl, hb6⟩
      have hS := HS.out.call hb6
      have z0_0 := hS.cell 0 0 rfl rfl; have z0_1 := hS.cell 0 1 rfl rfl; have z1_0 := hS.cell 1 0 rfl rfl; have z1_1 := hS.cell 1 1 rfl rfl; have z2_0 := hS.cell 2 0 rfl rfl; have z2_1 := hS.cell 2 1 rfl rfl
      have zf0 := hS.free 0 rfl
      have HU := Lib.hid hS
      clear hS hb6
      obtain ⟨t, ht⟩ : ∃ t, t = s * n := ⟨_, rfl⟩
      rw [← ht]
      have HT := Lib.hid ht
      clear ht
      go_wp2_with fail
      have r := (OwnR.of HU.out rfl).put [.int .i64 (hiOf t), .int .u64 (loOf t)] rfl
      exact bodyPost_ret (v := .tuple #[.agg #[.int .i64 (hiOf t), .int .u64 (loOf t)], .bool true]) (by simp [results, Tryd.results21, go_sem, z0_0, z0_1]) rfl ⟨by rw [HT.out], r.bel⟩
    · have g3 : (hiOf m != 0) = true := by simp [g1]
      clear g1 hm
      go_wp2_with fail
      refine (signed_ok m true HM.out.2.1 (by have := HM.out.2.2.1; omega) (fun _ => HM.out.2.2.2.1 hneg) _).mono ?_
      rw [HM.out.2.2.2.2.1 hneg]
      rintro e w6 ⟨rfl, hb6⟩
      have hS := HS.out.call hb6
      have z0_0 := hS.cell 0 0 rfl rfl; have z0_1 := hS.cell 0 1 rfl rfl; have z1_0 := hS.cell 1 0 rfl rfl; have z1_1 := hS.cell 1 1 rfl rfl; have z2_0 := hS.cell 2 0 rfl rfl; have z2_1 := hS.cell 2 1 rfl rfl
      have zf0 := hS.free 0 rfl
      have HU := Lib.hid hS
      clear hS hb6
      obtain ⟨t, ht⟩ : ∃ t, t = s * n := ⟨_, rfl⟩
      rw [← ht]
      have HT := Lib.hid ht
      clear ht
      go_wp2_with fail
      have r := (OwnR.of HU.out rfl).put [.int .i64 (hiOf t), .int .u64 (loOf t)] rfl
      exact bodyPost_ret (v := .tuple #[.agg #[.int .i64 (hiOf t), .int .u64 (loOf t)], .bool true]) (by simp [results, Tryd.results21, go_sem, z0_0, z0_1]) rfl ⟨by rw [HT.out], r.bel⟩
  · have d0 : decide (hiOf s < 0) = false := by simp [hi_neg]; omega
    rw [d0]
    have HS := Lib.hid hS
    clear hS hb5 d0
    go_wp2_with fail
    refine (signed_ok m false HM.out.2.1 (by have := HM.out.2.2.1; omega) (fun h => by cases h) _).mono ?_
    rw [HM.out.2.2.2.2.2 hneg]
    rintro e w6 ⟨rfl, hb6⟩
    have hS := HS.out.call hb6
    have z0_0 := hS.cell 0 0 rfl rfl; have z0_1 := hS.cell 0 1 rfl rfl; have z1_0 := hS.cell 1 0 rfl rfl; have z1_1 := hS.cell 1 1 rfl rfl; have z2_0 := hS.cell 2 0 rfl rfl; have z2_1 := hS.cell 2 1 rfl rfl
    have zf0 := hS.free 0 rfl
    have HU := Lib.hid hS
    clear hS hb6
    obtain ⟨t, ht⟩ : ∃ t, t = s * n := ⟨_, rfl⟩
    rw [← ht]
    have HT := Lib.hid ht
    clear ht
    go_wp2_with fail
    have r := (OwnR.of HU.out rfl).put [.int .i64 (hiOf t), .int .u64 (loOf t)] rfl
    exact bodyPost_ret (v := .tuple #[.agg #[.int .i64 (hiOf t), .int .u64 (loOf t)], .bool true]) (by simp [results, Tryd.results21, go_sem, z0_0, z0_1]) rfl ⟨by rw [HT.out], r.bel⟩
end Go.Proofs.YthhgnngpaagagaaDoor
