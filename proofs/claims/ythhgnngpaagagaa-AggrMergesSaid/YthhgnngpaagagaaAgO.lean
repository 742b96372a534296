/-
  The contracts of wide's parts, Div, Int and of aggr.Mean. (Printed by mk.py.)
-/
import Derived.Test.YthhgnngpaagagaaAgN
import Derived.Test.YthhgnngpaagagaaAgE
namespace Go.Proofs.Ythhgnngpaagagaa
open Go.RowKit
set_option linter.unusedVariables false
set_option linter.unusedSimpArgs false
theorem parts_nat {H L N : Nat} (hN : 0 < N) : (H * 18446744073709551616 + L) / N = H / N * 18446744073709551616 + (H % N * 18446744073709551616 + L) / N ∧ (H * 18446744073709551616 + L) % N = (H % N * 18446744073709551616 + L) % N := by
  have h := Nat.div_add_mod H N
  generalize H / N = a at *
  generalize H % N = r at *
  subst h
  have e : (N * a + r) * 18446744073709551616 + L = N * (a * 18446744073709551616) + (r * 18446744073709551616 + L) := by
    rw [Nat.add_mul, Nat.mul_assoc]; omega
  rw [e, Nat.mul_add_div hN, Nat.mul_add_mod]
  exact ⟨rfl, rfl⟩
theorem parts_int {m n : Int} (h0 : 0 ≤ m) (h1 : m < 340282366920938463463374607431768211456) (hn : 0 < n) (hn' : n < 18446744073709551616) :
    ∃ H L N : Nat, hiOf m = H ∧ loOf m = L ∧ n = N ∧ 0 < N ∧ N < 18446744073709551616 ∧ H < 18446744073709551616 ∧ L < 18446744073709551616 ∧
      hiOf (m / n) = ((H / N : Nat) : Int) ∧ loOf (m / n) = (((H % N * 18446744073709551616 + L) / N : Nat) : Int) ∧ m % n = (((H % N * 18446744073709551616 + L) % N : Nat) : Int) := by
  obtain ⟨M, rfl⟩ := Int.eq_ofNat_of_zero_le h0
  obtain ⟨N, rfl⟩ := Int.eq_ofNat_of_zero_le (Int.le_of_lt hn)
  have hN : 0 < N := by omega
  obtain ⟨p1, p2⟩ := parts_nat (H := M / 18446744073709551616) (L := M % 18446744073709551616) hN
  rw [show M / 18446744073709551616 * 18446744073709551616 + M % 18446744073709551616 = M by omega] at p1 p2
  have hm := Nat.mod_lt (M / 18446744073709551616) hN
  have hb : (M / 18446744073709551616 % N * 18446744073709551616 + M % 18446744073709551616) / N < 18446744073709551616 := by
    rw [Nat.div_lt_iff_lt_mul hN]; omega
  refine ⟨M / 18446744073709551616, M % 18446744073709551616, N, rfl, rfl, rfl, hN, by omega, by omega, by omega, ?_, ?_, ?_⟩
  · rw [show ((M : Int) / (N : Int)) = ((M / N : Nat) : Int) by rfl, p1]
    have := hiOf_mk ((M / 18446744073709551616 / N : Nat) : Int) (((M / 18446744073709551616 % N * 18446744073709551616 + M % 18446744073709551616) / N : Nat) : Int) (Int.natCast_nonneg _) (by omega)
    rw [← this]
    congr 1
  · rw [show ((M : Int) / (N : Int)) = ((M / N : Nat) : Int) by rfl, p1]
    have := loOf_mk ((M / 18446744073709551616 / N : Nat) : Int) (((M / 18446744073709551616 % N * 18446744073709551616 + M % 18446744073709551616) / N : Nat) : Int) (Int.natCast_nonneg _) (by omega)
    rw [← this]
    congr 1
  · rw [show ((M : Int) % (N : Int)) = ((M % N : Nat) : Int) by rfl, p2]
def PartsPost (m n : Int) (w : World) (e : Ending) (w' : World) : Prop :=
  e = .returned (.tuple #[.agg #[.int .u64 (hiOf (m / n)), .int .u64 (loOf (m / n))], .int .u64 (m % n)]) ∧ Below w.heap.size w w'
set_option maxRecDepth 100000 in
set_option maxHeartbeats 4000000 in
theorem parts_any (m n : Int) (h0 : 0 ≤ m) (h1 : m < 340282366920938463463374607431768211456) (hn : 0 < n) (hn' : n < 18446744073709551616) (w : World) :
    Calls Try.prog 42 #[.agg #[.int .u64 (hiOf m), .int .u64 (loOf m)], .int .u64 n] w (PartsPost m n w) := by
  obtain ⟨H, L, N, e1, e2, rfl, hN, hN', hH, hL, e3, e4, e5⟩ := parts_int h0 h1 hn hn'
  unfold PartsPost
  rw [e1, e2, e3, e4, e5]
  clear e1 e2 e3 e4 e5 h0 h1 hn hn'
  obtain ⟨x, hx⟩ : ∃ x, x = w.heap.size := ⟨_, rfl⟩
  have o0 : Own w [(x, 77, #[.int .u64 H, .int .u64 L]), (x + 1, 77, #[.int .u64 0, .int .u64 0])] _ := Own.own2 w hx 77 #[.int .u64 H, .int .u64 L] 77 #[.int .u64 0, .int .u64 0]
  obtain ⟨a, ha⟩ : ∃ a, a = H / N := ⟨_, rfl⟩
  obtain ⟨r, hr⟩ : ∃ r, r = H % N := ⟨_, rfl⟩
  have k1 : IntKind.u64.wrap ((H : Int) / (N : Int)) = (a : Int) := by
    have := Nat.div_le_self H N
    rw [show (H : Int) / (N : Int) = ((H / N : Nat) : Int) by rfl, ← ha, wrap_u64_in (by omega) (by omega)]
  have k2 : (H : Int) % (N : Int) = (r : Int) := by rw [hr]; rfl
  have hrN : r < N := by rw [hr]; exact Nat.mod_lt _ hN
  rw [← ha, ← hr]
  have k3 : ((N : Int) == 0) = false := by simp; omega
  have k4 : ¬ N = 0 := by omega
  have HO := Lib.hid (And.intro hx o0)
  clear hx o0 ha hr
  go_enter Try.func42, Try.ntmps42
  go_wp2_with fail
  rw [← HO.out.1]
  refine wp_gen (Own w [(x, 77, #[.int .u64 H, .int .u64 L]), (x + 1, 77, #[.int .u64 0, .int .u64 0])]) HO.out.2 ?_
  intro w2 hS
  have z0_0 := hS.cell 0 0 rfl rfl; have z0_1 := hS.cell 0 1 rfl rfl; have z1_0 := hS.cell 1 0 rfl rfl; have z1_1 := hS.cell 1 1 rfl rfl
  have HS := Lib.hid hS
  clear hS
  go_quiet (fail)
  go_wp2_with fail
  refine (div64_any r L N hrN hN' hL _).mono ?_
  rintro e w3 ⟨rfl, hb⟩
  clear k1 k2 k3 k4
  obtain ⟨b, hb0⟩ : ∃ b, b = (r * 18446744073709551616 + L) / N := ⟨_, rfl⟩
  obtain ⟨c, hc⟩ : ∃ c, c = (r * 18446744073709551616 + L) % N := ⟨_, rfl⟩
  rw [← hb0, ← hc]
  have hS := ((HS.out.drewN _).call hb).front 1 rfl
  have HC := Lib.hid (And.intro hb0 hc)
  clear z0_0 z0_1 z1_0 z1_1 HS hb hb0 hc
  have z0_0 := hS.cell 0 0 rfl rfl; have z0_1 := hS.cell 0 1 rfl rfl; have z1_0 := hS.cell 1 0 rfl rfl; have z1_1 := hS.cell 1 1 rfl rfl
  have zf0 := hS.free 0 rfl
  have HP := Lib.hid ((OwnR.of hS rfl).put [.int .u64 a, .int .u64 b] rfl)
  clear hS
  go_wp2_with fail
  exact bodyPost_ret (v := .tuple #[.agg #[.int .u64 a, .int .u64 b], .int .u64 c]) (by simp [results, Try.results42, go_sem, z0_0, z0_1]) rfl ⟨by rw [HC.out.1, HC.out.2], HP.out.bel⟩
def DivW (s n : Int) (w : World) (e : Ending) (w' : World) : Prop := e = .returned (.tuple #[.agg #[.int .i64 (hiOf (s / n)), .int .u64 (loOf (s / n))], .int .i64 (s % n), .int .i64 0]) ∧ Below w.heap.size w w'
set_option maxRecDepth 100000 in
set_option maxHeartbeats 4000000 in
theorem wdiv_zero (s n : Int) (hn : n ≤ 0) (w : World) : Calls Try.prog 27 #[.agg #[.int .i64 (hiOf s), .int .u64 (loOf s)], .int .i64 n] w fun e w' => e = .returned (.tuple #[.agg #[.int .i64 0, .int .u64 0], .int .i64 0, .int .i64 2]) ∧ Below w.heap.size w w' := by
  obtain ⟨x, hx⟩ : ∃ x, x = w.heap.size := ⟨_, rfl⟩
  have o0 : Own w [(x, 25, #[.int .i64 (hiOf s), .int .u64 (loOf s)]), (x + 1, 25, #[.int .i64 0, .int .u64 0])] _ := Own.own2 w hx 25 #[.int .i64 (hiOf s), .int .u64 (loOf s)] 25 #[.int .i64 0, .int .u64 0]
  have HO := Lib.hid o0
  clear hx o0
  go_enter Try.func27, Try.ntmps27
  go_wp2_with fail
  exact bodyPost_ret (v := .tuple #[.agg #[.int .i64 0, .int .u64 0], .int .i64 0, .int .i64 2]) (by simp [results, Try.results27, go_sem]) rfl ⟨rfl, HO.out.bel⟩
theorem divw_facts {s n : Int} (hs : S128 s) (hn : 0 < n) :
    (¬ s < 0 → wrp (absI s / n) = s / n ∧ absI s % n = s % n) ∧
    (s < 0 → absI s % n = 0 → wrp (-(wrp (absI s / n))) = s / n ∧ s % n = 0) ∧
    (s < 0 → absI s % n ≠ 0 → wrp (-(wrp (wrp (absI s / n) + 1))) = s / n ∧ n - absI s % n = s % n) := by
  have q0 : 0 ≤ absI s := by unfold absI; split <;> omega
  have d1 := Int.mul_ediv_add_emod (absI s) n
  have d2 := Int.emod_nonneg (absI s) (b := n) (by omega)
  have d3 := Int.emod_lt_of_pos (absI s) hn
  have d4 : 0 ≤ absI s / n := Int.ediv_nonneg q0 (by omega)
  have d5 : absI s / n ≤ absI s := by
    have := Int.mul_le_mul_of_nonneg_right (show (1 : Int) ≤ n by omega) d4
    omega
  have hu : ∀ q r, r + n * q = s → 0 ≤ r → r < n → q = s / n ∧ r = s % n := fun q r h1 h2 h3 => by
    have := (Int.ediv_emod_unique hn (a := s) (q := q) (r := r)).2 ⟨h1, h2, h3⟩
    exact ⟨this.1.symm, this.2.symm⟩
  unfold S128 at hs
  refine ⟨fun h => ?_, fun h h0 => ?_, fun h h0 => ?_⟩
  · have e : absI s = s := by unfold absI; rw [if_neg h]
    rw [e] at d1 d2 d3 d4 d5 ⊢
    rw [wrp_id (by unfold S128; omega)]
    exact ⟨rfl, rfl⟩
  · have e : absI s = -s := by unfold absI; rw [if_pos h]
    rw [e] at d1 d2 d3 d4 d5 h0 ⊢
    generalize -s / n = q at *
    generalize -s % n = r at *
    subst h0
    have := hu (-q) 0 (by rw [Int.mul_neg]; omega) (by omega) hn
    rw [show wrp (-(wrp q)) = wrp (-q) by unfold wrp; omega, wrp_id (by unfold S128; omega)]
    exact ⟨this.1, this.2.symm⟩
  · have e : absI s = -s := by unfold absI; rw [if_pos h]
    rw [e] at d1 d2 d3 d4 d5 h0 ⊢
    have d6 : -s / n * 2 ≤ -s := by
      have hn2 : 2 ≤ n := by
        rcases Int.lt_or_le n 2 with h2 | h2
        · have : n = 1 := by omega
          subst this
          simp at h0
        · exact h2
      have := Int.mul_le_mul_of_nonneg_right hn2 d4
      omega
    generalize -s / n = q at *
    generalize -s % n = r at *
    have := hu (-(q + 1)) (n - r) (by rw [Int.mul_neg, Int.mul_add]; omega) (by omega) (by omega)
    rw [wrp_id (x := q) (by unfold S128; omega), wrp_id (x := q + 1) (by unfold S128; omega), wrp_id (by unfold S128; omega)]
    exact this
set_option maxRecDepth 100000 in
set_option maxHeartbeats 8000000 in
theorem wdiv_any (s n : Int) (hs : S128 s) (hn : 0 < n) (hn' : n < 9223372036854775808) (w : World) : Calls Try.prog 27 #[.agg #[.int .i64 (hiOf s), .int .u64 (loOf s)], .int .i64 n] w (DivW s n w) := by
  obtain ⟨x, hx⟩ : ∃ x, x = w.heap.size := ⟨_, rfl⟩
  have o0 : Own w [(x, 25, #[.int .i64 (hiOf s), .int .u64 (loOf s)]), (x + 1, 25, #[.int .i64 0, .int .u64 0])] _ := Own.own2 w hx 25 #[.int .i64 (hiOf s), .int .u64 (loOf s)] 25 #[.int .i64 0, .int .u64 0]
  have q0 : 0 ≤ absI s ∧ absI s ≤ 170141183460469231731687303715884105728 := by unfold S128 at hs; unfold absI; split <;> omega
  have HF := Lib.hid (divw_facts hs hn)
  have HO := Lib.hid (And.intro hx (And.intro o0 (And.intro hs q0)))
  clear hx o0 hs q0
  have k1 : IntKind.u64.wrap n = n := wrap_u64_in (by omega) (by omega)
  go_enter Try.func27, Try.ntmps27
  go_wp2_with fail
  refine (amount_any s HO.out.2.2.1 _).mono ?_
  rintro e w1 ⟨rfl, hb1⟩
  have hS := HO.out.2.1.call hb1
  have HS := Lib.hid hS
  clear hS hb1
  go_wp2_with fail
  refine (parts_any (absI s) n HO.out.2.2.2.1 (by have := HO.out.2.2.2.2; omega) hn (by omega) _).mono ?_
  rintro e w2 ⟨rfl, hb2⟩
  obtain ⟨y, hy⟩ : ∃ y, y = w2.heap.size := ⟨_, rfl⟩
  obtain ⟨q, hq⟩ : ∃ q, q = absI s / n := ⟨_, rfl⟩
  obtain ⟨r, hr⟩ : ∃ r, r = absI s % n := ⟨_, rfl⟩
  have hS := (HS.out.call hb2).alloc hy 77 #[.int .u64 (hiOf q), .int .u64 (loOf q)]
  rw [← hq, ← hr]
  have hF := HF.out
  rw [← hq, ← hr] at hF
  have r0 : 0 ≤ r := by rw [hr]; exact Int.emod_nonneg _ (by omega)
  have r1 : r < n := by rw [hr]; exact Int.emod_lt_of_pos _ hn
  clear HF HS
  have HY := Lib.hid (And.intro hy (And.intro hS (And.intro hF (And.intro hq hr))))
  clear hS hF hq hr hy hb2 k1
  go_upto_region 4 with (fail)
  rw [← HY.out.1, ← HO.out.1]
  refine wp_gen (Own w [(x, 25, #[.int .i64 (hiOf s), .int .u64 (loOf s)]), (x + 1, 25, #[.int .i64 0, .int .u64 0]), (y, 77, #[.int .u64 (hiOf q), .int .u64 (loOf q)])]) HY.out.2.1 ?_
  intro w3 hS
  have hF := HY.out.2.2.1
  clear HY
  obtain ⟨p, hp⟩ : ∃ p, p = wrp q := ⟨_, rfl⟩
  have k2 : IntKind.i64.wrap (hiOf q) = hiOf p := by
    rw [hp, wrp_hi]; simp only [IntKind.wrap_i64]
  have k3 : loOf q = loOf p := by rw [hp, wrp_lo]
  rw [← hp] at hF
  have k4 : IntKind.i64.wrap r = r := by simp only [IntKind.wrap_i64]; omega
  have hp2 : S128 p := by rw [hp]; exact wrp_s q
  have hS := hS.front 1 rfl
  have z0_0 := hS.cell 0 0 rfl rfl; have z0_1 := hS.cell 0 1 rfl rfl; have z1_0 := hS.cell 1 0 rfl rfl; have z1_1 := hS.cell 1 1 rfl rfl; have z2_0 := hS.cell 2 0 rfl rfl; have z2_1 := hS.cell 2 1 rfl rfl
  have zf0 := hS.free 0 rfl
  have hS' := (OwnR.of hS rfl).put [.int .i64 (hiOf p), .int .u64 (loOf p)] rfl
  have HS := Lib.hid (And.intro hS' (And.intro hF hp2))
  clear hS hS' hF hp hp2
  go_upto_region 5 with (fail)
  refine wp_gen (Own w [(x + 1, 25, #[.int .i64 (hiOf p), .int .u64 (loOf p)]), (x, 25, #[.int .i64 (hiOf s), .int .u64 (loOf s)]), (y, 77, #[.int .u64 (hiOf q), .int .u64 (loOf q)])]) HS.out.1 ?_
  clear z0_0 z0_1 z1_0 z1_1 z2_0 z2_1 zf0 k2 k3
  intro w4 hS
  have z0_0 := hS.cell 0 0 rfl rfl; have z0_1 := hS.cell 0 1 rfl rfl; have z1_0 := hS.cell 1 0 rfl rfl; have z1_1 := hS.cell 1 1 rfl rfl; have z2_0 := hS.cell 2 0 rfl rfl; have z2_1 := hS.cell 2 1 rfl rfl
  have HT := Lib.hid hS
  clear hS
  go_wp2_with fail
  refine (below_any _ _ _).mono ?_
  rintro e w5 ⟨rfl, hb⟩
  have hS := HT.out.call hb
  clear z0_0 z0_1 z1_0 z1_1 z2_0 z2_1 hb HT
  have z0_0 := hS.cell 0 0 rfl rfl; have z0_1 := hS.cell 0 1 rfl rfl; have z1_0 := hS.cell 1 0 rfl rfl; have z1_1 := hS.cell 1 1 rfl rfl; have z2_0 := hS.cell 2 0 rfl rfl; have z2_1 := hS.cell 2 1 rfl rfl
  have zf0 := hS.free 0 rfl
  have HT := Lib.hid hS
  clear hS
  by_cases hneg : s < 0
  · have d0 : decide (hiOf s < 0) = true := by simp [hi_neg, hneg]
    rw [d0]
    clear d0
    by_cases hr0 : r = 0
    · obtain ⟨g1, g2⟩ := HS.out.2.1.2.1 hneg hr0
      have HG := Lib.hid (And.intro g1 g2)
      subst hr0
      clear g1 g2
      go_wp2_with fail
      refine (minus_any p HS.out.2.2 _).mono ?_
      rintro e w6 ⟨rfl, hb6⟩
      have hS := HT.out.call hb6
      clear z0_0 z0_1 z1_0 z1_1 z2_0 z2_1 zf0 hb6
      have z0_0 := hS.cell 0 0 rfl rfl; have z0_1 := hS.cell 0 1 rfl rfl; have z1_0 := hS.cell 1 0 rfl rfl; have z1_1 := hS.cell 1 1 rfl rfl; have z2_0 := hS.cell 2 0 rfl rfl; have z2_1 := hS.cell 2 1 rfl rfl
      have zf0 := hS.free 0 rfl
      rw [HG.out.1]
      have HP := Lib.hid ((OwnR.of hS rfl).put [.int .i64 (hiOf (s / n)), .int .u64 (loOf (s / n))] rfl)
      clear hS
      go_wp2_with fail
      exact bodyPost_ret (v := .tuple #[.agg #[.int .i64 (hiOf (s / n)), .int .u64 (loOf (s / n))], .int .i64 0, .int .i64 0]) (by simp [results, Try.results27, go_sem, z0_0, z0_1]) rfl ⟨by rw [HG.out.2], HP.out.bel⟩
    · obtain ⟨g1, g2⟩ := HS.out.2.1.2.2 hneg hr0
      have HG := Lib.hid (And.intro g1 g2)
      have d1 : (r == 0) = false := by simp [hr0]
      have k5 : IntKind.i64.wrap (n - r) = n - r := by simp only [IntKind.wrap_i64]; omega
      have k6 : wrap64 (n - r) = n - r := by unfold wrap64; omega
      clear g1 g2 hr0
      go_upto_region 9 with (fail)
      have HT1 := Lib.hid HT.out.drew
      have hS : (OwnR w (x + 1) 25 2 [(x, 25, #[.int .i64 (hiOf s), .int .u64 (loOf s)]), (y, 77, #[.int .u64 (hiOf q), .int .u64 (loOf q)])]) (_) := OwnR.of HT1.out rfl
      refine reg_start (OwnR w (x + 1) 25 2 [(x, 25, #[.int .i64 (hiOf s), .int .u64 (loOf s)]), (y, 77, #[.int .u64 (hiOf q), .int .u64 (loOf q)])]) (by kernel_rfl) hS ?_
      refine reg_take (i := 4) (v := ?_) rfl (by kernel_rfl) (by kernel_rfl) (by kernel_rfl) (fun _ _ _ h => h) (Or.inl ⟨by kernel_rfl, ?_⟩) hS ?_
      rotate_left
      · (intro w' hSw; go_simp <;> with_reducible rfl)
      try simp only [List.getElem_toArray, List.getElem_cons_succ, List.getElem_cons_zero, Act.put, List.setIfInBounds_toArray, List.set_cons_zero, List.set_cons_succ]
      refine reg_take (i := 5) (v := ?_) rfl (by kernel_rfl) (by kernel_rfl) (by kernel_rfl) (fun _ _ _ h => h) (Or.inl ⟨by kernel_rfl, ?_⟩) hS ?_
      rotate_left
      · (intro w' hSw; go_simp <;> with_reducible rfl)
      try simp only [List.getElem_toArray, List.getElem_cons_succ, List.getElem_cons_zero, Act.put, List.setIfInBounds_toArray, List.set_cons_zero, List.set_cons_succ]
      refine reg_take (i := 6) (v := ?_) rfl (by kernel_rfl) (by kernel_rfl) (by kernel_rfl) (fun _ _ _ h => h) (Or.inl ⟨by kernel_rfl, ?_⟩) hS ?_
      rotate_left
      · (intro w' hSw; go_simp <;> with_reducible rfl)
      try simp only [List.getElem_toArray, List.getElem_cons_succ, List.getElem_cons_zero, Act.put, List.setIfInBounds_toArray, List.set_cons_zero, List.set_cons_succ]
      refine reg_take (i := 7) (v := ?_) rfl (by kernel_rfl) (by kernel_rfl) (by kernel_rfl) (fun _ _ _ h => h) (Or.inl ⟨by kernel_rfl, ?_⟩) hS ?_
      rotate_left
      · (intro w' hSw; go_simp <;> with_reducible rfl)
      try simp only [List.getElem_toArray, List.getElem_cons_succ, List.getElem_cons_zero, Act.put, List.setIfInBounds_toArray, List.set_cons_zero, List.set_cons_succ]
      refine reg_two (i := 0) (j := 1) rfl rfl (by kernel_rfl) (fun K hK => ?_) (fun K hK => ?_)
      · skip
        have HK := Lib.hid hK
        clear hK
        go_simp
        go_wp2_with fail
        refine HK.out.to (OwnR w (x + 1) 25 2 [(x, 25, #[.int .i64 (hiOf s), .int .u64 (loOf s)]), (y, 77, #[.int .u64 (hiOf q), .int .u64 (loOf q)])]) (fun _ h => h) (OwnR.of HT1.out rfl) ?_
        clear HK hS
        have hS : (OwnR w (x + 1) 25 2 [(x, 25, #[.int .i64 (hiOf s), .int .u64 (loOf s)]), (y, 77, #[.int .u64 (hiOf q), .int .u64 (loOf q)])]) (_) := OwnR.of HT1.out rfl
        try simp only [List.getElem_toArray, List.getElem_cons_succ, List.getElem_cons_zero, Act.put, List.setIfInBounds_toArray, List.set_cons_zero, List.set_cons_succ]
        refine reg_call (i := 1) rfl (by kernel_rfl) (fun K hK => ?_)
        have HK := Lib.hid hK
        clear hK
        go_simp
        refine (wideOf_any 1 (by omega) _).mono ?_
        rintro e w6 ⟨rfl, h6⟩
        have H6 := Lib.hid (HT1.out.call h6)
        clear h6
        go_wp2_with fail
        refine HK.out.to (OwnR w (x + 1) 25 2 [(x, 25, #[.int .i64 (hiOf s), .int .u64 (loOf s)]), (y, 77, #[.int .u64 (hiOf q), .int .u64 (loOf q)])]) (fun _ h => h) (OwnR.of H6.out rfl) ?_
        clear HK hS
        have hS : (OwnR w (x + 1) 25 2 [(x, 25, #[.int .i64 (hiOf s), .int .u64 (loOf s)]), (y, 77, #[.int .u64 (hiOf q), .int .u64 (loOf q)])]) (w6) := OwnR.of H6.out rfl
        try simp only [List.getElem_toArray, List.getElem_cons_succ, List.getElem_cons_zero, Act.put, List.setIfInBounds_toArray, List.set_cons_zero, List.set_cons_succ]
        refine reg_call (i := 2) rfl (by kernel_rfl) (fun K hK => ?_)
        have HK := Lib.hid hK
        clear hK
        go_simp
        refine (plus_any p 1 _).mono ?_
        rintro e w7 ⟨rfl, h7⟩
        have H7 := Lib.hid (H6.out.call h7)
        clear h7
        go_wp2_with fail
        refine HK.out.to (OwnR w (x + 1) 25 2 [(x, 25, #[.int .i64 (hiOf s), .int .u64 (loOf s)]), (y, 77, #[.int .u64 (hiOf q), .int .u64 (loOf q)])]) (fun _ h => h) (OwnR.of H7.out rfl) ?_
        clear HK hS
        have hS : (OwnR w (x + 1) 25 2 [(x, 25, #[.int .i64 (hiOf s), .int .u64 (loOf s)]), (y, 77, #[.int .u64 (hiOf q), .int .u64 (loOf q)])]) (w7) := OwnR.of H7.out rfl
        try simp only [List.getElem_toArray, List.getElem_cons_succ, List.getElem_cons_zero, Act.put, List.setIfInBounds_toArray, List.set_cons_zero, List.set_cons_succ]
        refine reg_call (i := 3) rfl (by kernel_rfl) (fun K hK => ?_)
        have HK := Lib.hid hK
        clear hK
        go_simp
        refine (minus_any (wrp (p + 1)) (wrp_s _) _).mono ?_
        rintro e w8 ⟨rfl, h8⟩
        rw [HG.out.1]
        have H8 := Lib.hid (H7.out.call h8)
        clear h8
        go_wp2_with fail
        refine HK.out.to (OwnR w (x + 1) 25 2 [(x, 25, #[.int .i64 (hiOf s), .int .u64 (loOf s)]), (y, 77, #[.int .u64 (hiOf q), .int .u64 (loOf q)])]) (fun _ h => h) (OwnR.of H8.out rfl) ?_
        clear HK hS
        have hS : (OwnR w (x + 1) 25 2 [(x, 25, #[.int .i64 (hiOf s), .int .u64 (loOf s)]), (y, 77, #[.int .u64 (hiOf q), .int .u64 (loOf q)])]) (w8) := OwnR.of H8.out rfl
        try simp only [List.getElem_toArray, List.getElem_cons_succ, List.getElem_cons_zero, Act.put, List.setIfInBounds_toArray, List.set_cons_zero, List.set_cons_succ]
        have hSc := H8.out
        have H9 := Lib.hid ((OwnR.of H8.out rfl).put [.int .i64 (hiOf (s / n)), .int .u64 (loOf (s / n))] rfl)
        clear z0_0 z0_1 z1_0 z1_1 z2_0 z2_1 zf0
        have z0_0 := hSc.cell 0 0 rfl rfl; have z0_1 := hSc.cell 0 1 rfl rfl; have z1_0 := hSc.cell 1 0 rfl rfl; have z1_1 := hSc.cell 1 1 rfl rfl; have z2_0 := hSc.cell 2 0 rfl rfl; have z2_1 := hSc.cell 2 1 rfl rfl
        have zf0 := hSc.free 0 rfl
        clear hSc
        refine reg_call (i := 8) rfl (by kernel_rfl) (fun K hK => ?_)
        have HK := Lib.hid hK
        clear hK
        go_simp
        go_wp2_with fail
        refine HK.out.go (Own w [(x + 1, 25, #[.int .i64 (hiOf (s / n)), .int .u64 (loOf (s / n))]), (x, 25, #[.int .i64 (hiOf s), .int .u64 (loOf s)]), (y, 77, #[.int .u64 (hiOf q), .int .u64 (loOf q)])]) (fun _ h => OwnR.of h rfl) (H9.out) ?_
        clear HK hS
        intro w9 hS
        try simp only [List.getElem_toArray, List.getElem_cons_succ, List.getElem_cons_zero, Act.put, List.setIfInBounds_toArray, List.set_cons_zero, List.set_cons_succ]
        refine reg_take (i := 9) (v := ?_) rfl (by kernel_rfl) (by kernel_rfl) (by kernel_rfl) (fun _ _ _ h => h) (Or.inl ⟨by kernel_rfl, ?_⟩) hS ?_
        rotate_left
        · (intro w' hSw; go_simp <;> with_reducible rfl)
        try simp only [List.getElem_toArray, List.getElem_cons_succ, List.getElem_cons_zero, Act.put, List.setIfInBounds_toArray, List.set_cons_zero, List.set_cons_succ]
        refine reg_take (i := 10) (v := ?_) rfl (by kernel_rfl) (by kernel_rfl) (by kernel_rfl) (fun _ _ _ h => h) (Or.inl ⟨by kernel_rfl, ?_⟩) hS ?_
        rotate_left
        · (intro w' hSw; go_simp <;> with_reducible rfl)
        try simp only [List.getElem_toArray, List.getElem_cons_succ, List.getElem_cons_zero, Act.put, List.setIfInBounds_toArray, List.set_cons_zero, List.set_cons_succ]
        refine wpAnyH_done (by kernel_rfl) ?_ _
        try simp only [List.getElem_toArray, List.getElem_cons_succ, List.getElem_cons_zero]
        try simp only [List.getElem_toArray, List.getElem_cons_succ, List.getElem_cons_zero, Act.put, List.setIfInBounds_toArray, List.set_cons_zero, List.set_cons_succ]
        clear z0_0 z0_1 z1_0 z1_1 z2_0 z2_1 zf0
        have z0_0 := hS.cell 0 0 rfl rfl; have z0_1 := hS.cell 0 1 rfl rfl; have z1_0 := hS.cell 1 0 rfl rfl; have z1_1 := hS.cell 1 1 rfl rfl; have z2_0 := hS.cell 2 0 rfl rfl; have z2_1 := hS.cell 2 1 rfl rfl
        have HP := Lib.hid hS
        clear hS
        go_wp2_with fail
        exact bodyPost_ret (v := .tuple #[.agg #[.int .i64 (hiOf (s / n)), .int .u64 (loOf (s / n))], .int .i64 (n - r), .int .i64 0]) (by simp [results, Try.results27, go_sem, z0_0, z0_1]) rfl ⟨by rw [HG.out.2], HP.out.bel⟩
      · skip
        have HK := Lib.hid hK
        clear hK
        go_simp
        refine (wideOf_any 1 (by omega) _).mono ?_
        rintro e w6 ⟨rfl, h6⟩
        have H6 := Lib.hid (HT1.out.call h6)
        clear h6
        go_wp2_with fail
        refine HK.out.to (OwnR w (x + 1) 25 2 [(x, 25, #[.int .i64 (hiOf s), .int .u64 (loOf s)]), (y, 77, #[.int .u64 (hiOf q), .int .u64 (loOf q)])]) (fun _ h => h) (OwnR.of H6.out rfl) ?_
        clear HK hS
        have hS : (OwnR w (x + 1) 25 2 [(x, 25, #[.int .i64 (hiOf s), .int .u64 (loOf s)]), (y, 77, #[.int .u64 (hiOf q), .int .u64 (loOf q)])]) (w6) := OwnR.of H6.out rfl
        try simp only [List.getElem_toArray, List.getElem_cons_succ, List.getElem_cons_zero, Act.put, List.setIfInBounds_toArray, List.set_cons_zero, List.set_cons_succ]
        have hSb := H6.out
        clear z0_0 z0_1 z1_0 z1_1 z2_0 z2_1 zf0
        have z0_0 := hSb.cell 0 0 rfl rfl; have z0_1 := hSb.cell 0 1 rfl rfl; have z1_0 := hSb.cell 1 0 rfl rfl; have z1_1 := hSb.cell 1 1 rfl rfl; have z2_0 := hSb.cell 2 0 rfl rfl; have z2_1 := hSb.cell 2 1 rfl rfl
        have zf0 := hSb.free 0 rfl
        clear hSb
        refine reg_call (i := 0) rfl (by kernel_rfl) (fun K hK => ?_)
        have HK := Lib.hid hK
        clear hK
        go_simp
        go_wp2_with fail
        refine HK.out.to (OwnR w (x + 1) 25 2 [(x, 25, #[.int .i64 (hiOf s), .int .u64 (loOf s)]), (y, 77, #[.int .u64 (hiOf q), .int .u64 (loOf q)])]) (fun _ h => h) (OwnR.of H6.out rfl) ?_
        clear HK hS
        have hS : (OwnR w (x + 1) 25 2 [(x, 25, #[.int .i64 (hiOf s), .int .u64 (loOf s)]), (y, 77, #[.int .u64 (hiOf q), .int .u64 (loOf q)])]) (w6) := OwnR.of H6.out rfl
        try simp only [List.getElem_toArray, List.getElem_cons_succ, List.getElem_cons_zero, Act.put, List.setIfInBounds_toArray, List.set_cons_zero, List.set_cons_succ]
        refine reg_call (i := 2) rfl (by kernel_rfl) (fun K hK => ?_)
        have HK := Lib.hid hK
        clear hK
        go_simp
        refine (plus_any p 1 _).mono ?_
        rintro e w7 ⟨rfl, h7⟩
        have H7 := Lib.hid (H6.out.call h7)
        clear h7
        go_wp2_with fail
        refine HK.out.to (OwnR w (x + 1) 25 2 [(x, 25, #[.int .i64 (hiOf s), .int .u64 (loOf s)]), (y, 77, #[.int .u64 (hiOf q), .int .u64 (loOf q)])]) (fun _ h => h) (OwnR.of H7.out rfl) ?_
        clear HK hS
        have hS : (OwnR w (x + 1) 25 2 [(x, 25, #[.int .i64 (hiOf s), .int .u64 (loOf s)]), (y, 77, #[.int .u64 (hiOf q), .int .u64 (loOf q)])]) (w7) := OwnR.of H7.out rfl
        try simp only [List.getElem_toArray, List.getElem_cons_succ, List.getElem_cons_zero, Act.put, List.setIfInBounds_toArray, List.set_cons_zero, List.set_cons_succ]
        refine reg_call (i := 3) rfl (by kernel_rfl) (fun K hK => ?_)
        have HK := Lib.hid hK
        clear hK
        go_simp
        refine (minus_any (wrp (p + 1)) (wrp_s _) _).mono ?_
        rintro e w8 ⟨rfl, h8⟩
        rw [HG.out.1]
        have H8 := Lib.hid (H7.out.call h8)
        clear h8
        go_wp2_with fail
        refine HK.out.to (OwnR w (x + 1) 25 2 [(x, 25, #[.int .i64 (hiOf s), .int .u64 (loOf s)]), (y, 77, #[.int .u64 (hiOf q), .int .u64 (loOf q)])]) (fun _ h => h) (OwnR.of H8.out rfl) ?_
        clear HK hS
        have hS : (OwnR w (x + 1) 25 2 [(x, 25, #[.int .i64 (hiOf s), .int .u64 (loOf s)]), (y, 77, #[.int .u64 (hiOf q), .int .u64 (loOf q)])]) (w8) := OwnR.of H8.out rfl
        try simp only [List.getElem_toArray, List.getElem_cons_succ, List.getElem_cons_zero, Act.put, List.setIfInBounds_toArray, List.set_cons_zero, List.set_cons_succ]
        have hSc := H8.out
        have H9 := Lib.hid ((OwnR.of H8.out rfl).put [.int .i64 (hiOf (s / n)), .int .u64 (loOf (s / n))] rfl)
        clear z0_0 z0_1 z1_0 z1_1 z2_0 z2_1 zf0
        have z0_0 := hSc.cell 0 0 rfl rfl; have z0_1 := hSc.cell 0 1 rfl rfl; have z1_0 := hSc.cell 1 0 rfl rfl; have z1_1 := hSc.cell 1 1 rfl rfl; have z2_0 := hSc.cell 2 0 rfl rfl; have z2_1 := hSc.cell 2 1 rfl rfl
        have zf0 := hSc.free 0 rfl
        clear hSc
        refine reg_call (i := 8) rfl (by kernel_rfl) (fun K hK => ?_)
        have HK := Lib.hid hK
        clear hK
        go_simp
        go_wp2_with fail
        refine HK.out.go (Own w [(x + 1, 25, #[.int .i64 (hiOf (s / n)), .int .u64 (loOf (s / n))]), (x, 25, #[.int .i64 (hiOf s), .int .u64 (loOf s)]), (y, 77, #[.int .u64 (hiOf q), .int .u64 (loOf q)])]) (fun _ h => OwnR.of h rfl) (H9.out) ?_
        clear HK hS
        intro w9 hS
        try simp only [List.getElem_toArray, List.getElem_cons_succ, List.getElem_cons_zero, Act.put, List.setIfInBounds_toArray, List.set_cons_zero, List.set_cons_succ]
        refine reg_take (i := 9) (v := ?_) rfl (by kernel_rfl) (by kernel_rfl) (by kernel_rfl) (fun _ _ _ h => h) (Or.inl ⟨by kernel_rfl, ?_⟩) hS ?_
        rotate_left
        · (intro w' hSw; go_simp <;> with_reducible rfl)
        try simp only [List.getElem_toArray, List.getElem_cons_succ, List.getElem_cons_zero, Act.put, List.setIfInBounds_toArray, List.set_cons_zero, List.set_cons_succ]
        refine reg_take (i := 10) (v := ?_) rfl (by kernel_rfl) (by kernel_rfl) (by kernel_rfl) (fun _ _ _ h => h) (Or.inl ⟨by kernel_rfl, ?_⟩) hS ?_
        rotate_left
        · (intro w' hSw; go_simp <;> with_reducible rfl)
        try simp only [List.getElem_toArray, List.getElem_cons_succ, List.getElem_cons_zero, Act.put, List.setIfInBounds_toArray, List.set_cons_zero, List.set_cons_succ]
        refine wpAnyH_done (by kernel_rfl) ?_ _
        try simp only [List.getElem_toArray, List.getElem_cons_succ, List.getElem_cons_zero]
        try simp only [List.getElem_toArray, List.getElem_cons_succ, List.getElem_cons_zero, Act.put, List.setIfInBounds_toArray, List.set_cons_zero, List.set_cons_succ]
        clear z0_0 z0_1 z1_0 z1_1 z2_0 z2_1 zf0
        have z0_0 := hS.cell 0 0 rfl rfl; have z0_1 := hS.cell 0 1 rfl rfl; have z1_0 := hS.cell 1 0 rfl rfl; have z1_1 := hS.cell 1 1 rfl rfl; have z2_0 := hS.cell 2 0 rfl rfl; have z2_1 := hS.cell 2 1 rfl rfl
        have HP := Lib.hid hS
        clear hS
        go_wp2_with fail
        exact bodyPost_ret (v := .tuple #[.agg #[.int .i64 (hiOf (s / n)), .int .u64 (loOf (s / n))], .int .i64 (n - r), .int .i64 0]) (by simp [results, Try.results27, go_sem, z0_0, z0_1]) rfl ⟨by rw [HG.out.2], HP.out.bel⟩
  · have d0 : decide (hiOf s < 0) = false := by simp [hi_neg]; omega
    rw [d0]
    obtain ⟨g1, g2⟩ := HS.out.2.1.1 (by omega)
    have HG := Lib.hid (And.intro g1 g2)
    clear d0 g1 g2
    have HP := Lib.hid ((OwnR.of HT.out rfl).put [.int .i64 (hiOf p), .int .u64 (loOf p)] rfl)
    go_wp2_with fail
    exact bodyPost_ret (v := .tuple #[.agg #[.int .i64 (hiOf p), .int .u64 (loOf p)], .int .i64 r, .int .i64 0]) (by simp [results, Try.results27, go_sem, z0_0, z0_1]) rfl ⟨by rw [HG.out.1, HG.out.2], HP.out.bel⟩
end Go.Proofs.Ythhgnngpaagagaa
