/-
  The contract of aggr.Put. (Printed by genAvB.py and mk.py.)
-/
import Derived.Test.YthhgnngpaagagaaDoorAvPl
import Derived.Test.YthhgnngpaagagaaDoorLat
import Derived.Test.YthhgnngpaagagaaDoorAgL
namespace Go.Proofs.YthhgnngpaagagaaDoor
open Go.RowKit
set_option linter.unusedVariables false
set_option linter.unusedSimpArgs false
/-- The numbers behind the sum. -/
def aggI (a : Ag) : List Int := [a.lo, a.hi, a.f.t, a.f.v, a.f.s, a.l.t, a.l.v, a.l.s]
theorem aggI_ok {a : Ag} (h : AgFull a) : ∀ z ∈ aggI a, I64 z := by
  obtain ⟨⟨h1, h2, h3, h4⟩, ⟨h5, h6, h7⟩, ⟨h8, h9, h10⟩⟩ := h
  intro z hz
  unfold aggI at hz
  simp only [List.mem_cons, List.not_mem_nil, or_false] at hz
  rcases hz with rfl | rfl | rfl | rfl | rfl | rfl | rfl | rfl <;> assumption
theorem aggI_nums (a : Ag) : aggNums a = (aggI a).map zig := rfl
theorem cat_step (zs : List Int) (k : Nat) (h : k < zs.length) : cat ((zs.take (k + 1)).map zig) = cat ((zs.take k).map zig) ++ vput (zig zs[k]) := by
  rw [List.take_succ_eq_append_getElem h, List.map_append, cat_append]
  show _ ++ (vput _ ++ []) = _
  rw [List.append_nil]
theorem aput_some {a : Ag} (h : a.n ≠ 0) : aput a = vput (a.n % 18446744073709551616).toNat ++ (vput (zig (hiOf a.s)) ++ (vput (loOf a.s).toNat ++ cat ((aggI a).map zig))) := by
  unfold aput
  rw [aggUs_some h]
  rfl
set_option maxRecDepth 100000 in
set_option maxHeartbeats 8000000 in
theorem aggPut_any (w : World) (A : Option Addr) (len c : Nat) (bs : List Nat) (a : Ag) (ha : AgFull a) (hl : bs.length = len) (hsl : Sl w (fun k => k < w.heap.size) A len (byteC bs)) (hlc : len ≤ c) (hsm : len ≤ 1099511627000) :
    Calls Tryd.prog 10 #[.slice A len c, .agg #[.int .i64 a.n, .int .i64 (hiOf a.s), .int .u64 (loOf a.s), .int .i64 a.lo, .int .i64 a.hi, .int .i64 a.f.t, .int .i64 a.f.v, .int .i64 a.f.s, .int .i64 a.l.t, .int .i64 a.l.v, .int .i64 a.l.s]] w (VPutPost w (bs ++ aput a)) := by
  obtain ⟨x, hx⟩ : ∃ x, x = w.heap.size := ⟨_, rfl⟩
  have o0 := Own.own1 w hx 28 #[.int .i64 a.n, .int .i64 (hiOf a.s), .int .u64 (loOf a.s), .int .i64 a.lo, .int .i64 a.hi, .int .i64 a.f.t, .int .i64 a.f.v, .int .i64 a.f.s, .int .i64 a.l.t, .int .i64 a.l.v, .int .i64 a.l.s]
  obtain ⟨u, hu⟩ : ∃ u, u = (a.n % 18446744073709551616).toNat := ⟨_, rfl⟩
  have ku : IntKind.u64.wrap a.n = (u : Int) := by rw [IntKind.wrap_u64]; omega
  have hu64 : u < 18446744073709551616 := by omega
  have HO := Lib.hid (And.intro hx (And.intro o0 (And.intro (sl_later hsl o0.bel) (And.intro hl (And.intro hu ha)))))
  clear hx o0 hsl hl hu ha
  go_enter Tryd.func10, Tryd.ntmps10
  go_wp2_with fail
  refine (vput_any _ A len c bs (u : Int) HO.out.2.2.2.1 HO.out.2.2.1 hlc (by omega) (by omega) (by omega)).mono ?_
  rintro e w1 ⟨v, rfl, ho, hb⟩
  rw [Int.toNat_natCast] at ho
  have hlen : (bs ++ vput u).length ≤ len + 10 := by
    have := vput_len10 hu64
    rw [List.length_append, HO.out.2.2.2.1]; omega
  obtain ⟨B, hB⟩ : ∃ B, B = bs ++ vput u := ⟨_, rfl⟩
  rw [← hB] at ho hlen
  obtain ⟨n1, hn1⟩ : ∃ n, n = B.length := ⟨_, rfl⟩
  rw [← hn1] at ho hlen
  obtain ⟨A1, c1, hv1, hc1, -⟩ := own_form ho
  subst hv1
  have hS := HO.out.2.1.call hb
  have ho' := own_base ho (by have := HO.out.2.1.bel.size; exact this)
  have HB := Lib.hid (And.intro hB (And.intro hn1.symm (And.intro (ow_sl ho) (And.intro hS ho'))))
  clear hb hB hn1 ho ho'
  rw [← HO.out.1]
  have z0_0 := hS.cell 0 0 rfl rfl; have z0_1 := hS.cell 0 1 rfl rfl; have z0_2 := hS.cell 0 2 rfl rfl; have z0_3 := hS.cell 0 3 rfl rfl; have z0_4 := hS.cell 0 4 rfl rfl; have z0_5 := hS.cell 0 5 rfl rfl; have z0_6 := hS.cell 0 6 rfl rfl; have z0_7 := hS.cell 0 7 rfl rfl; have z0_8 := hS.cell 0 8 rfl rfl; have z0_9 := hS.cell 0 9 rfl rfl; have z0_10 := hS.cell 0 10 rfl rfl
  clear hS ku
  by_cases h0 : a.n = 0
  · have d : (a.n == 0) = true := by simp [h0]
    have e1 : bs ++ aput a = B := by
      have hu0 : u = 0 := by rw [HO.out.2.2.2.2.1, h0]; rfl
      rw [aput_zero h0, HB.out.1, hu0]
    have HE := Lib.hid e1
    clear h0 e1
    go_wp2_with fail
    go_ret
    refine ⟨_, rfl, ?_, HB.out.2.2.2.1.bel⟩
    rw [HE.out, HB.out.2.1]
    exact HB.out.2.2.2.2
  · have d : (a.n == 0) = false := by simp [h0]
    have e1 := aput_some h0
    rw [← HO.out.2.2.2.2.1, ] at e1
    have e2 : bs ++ aput a = B ++ (vput (zig (hiOf a.s)) ++ (vput (loOf a.s).toNat ++ cat ((aggI a).map zig))) := by rw [e1, HB.out.1, List.append_assoc]
    have hh := HO.out.2.2.2.2.2.ok.2.1.hi
    have HE := Lib.hid (And.intro e2 hh)
    clear h0 e1 e2 hh
    go_upto_region 4 with (fail)
    clear z0_0 z0_1 z0_2 z0_3 z0_4 z0_5 z0_6 z0_7 z0_8 z0_9 z0_10
    have hS : (Own w [(x, 28, #[.int .i64 a.n, .int .i64 (hiOf a.s), .int .u64 (loOf a.s), .int .i64 a.lo, .int .i64 a.hi, .int .i64 a.f.t, .int .i64 a.f.v, .int .i64 a.f.s, .int .i64 a.l.t, .int .i64 a.l.v, .int .i64 a.l.s])]) (w1.drew) := HB.out.2.2.2.1.drew
    refine reg_start (Own w [(x, 28, #[.int .i64 a.n, .int .i64 (hiOf a.s), .int .u64 (loOf a.s), .int .i64 a.lo, .int .i64 a.hi, .int .i64 a.f.t, .int .i64 a.f.v, .int .i64 a.f.s, .int .i64 a.l.t, .int .i64 a.l.v, .int .i64 a.l.s])]) (by kernel_rfl) hS ?_
    refine reg_take (i := 0) (v := ?_) rfl (by kernel_rfl) (by kernel_rfl) (by kernel_rfl) (fun _ _ _ h => h) (Or.inl ⟨by kernel_rfl, ?_⟩) hS ?_
    rotate_left
    · (intro w' hSw; go_simp <;> with_reducible rfl)
    try simp only [List.getElem_toArray, List.getElem_cons_succ, List.getElem_cons_zero, Act.put, List.setIfInBounds_toArray, List.set_cons_zero, List.set_cons_succ]
    refine reg_take (i := 1) (v := ?_) rfl (by kernel_rfl) (by kernel_rfl) (by kernel_rfl) (fun _ _ _ h => h) (Or.inl ⟨by kernel_rfl, ?_⟩) hS ?_
    rotate_left
    · (intro w' hSw; go_simp <;> with_reducible rfl)
    try simp only [List.getElem_toArray, List.getElem_cons_succ, List.getElem_cons_zero, Act.put, List.setIfInBounds_toArray, List.set_cons_zero, List.set_cons_succ]
    refine reg_take (i := 2) (v := ?_) rfl (by kernel_rfl) (by kernel_rfl) (by kernel_rfl) (fun _ _ _ h => h) (Or.inl ⟨by kernel_rfl, ?_⟩) hS ?_
    rotate_left
    · (intro w' hSw; go_simp <;> with_reducible rfl)
    try simp only [List.getElem_toArray, List.getElem_cons_succ, List.getElem_cons_zero, Act.put, List.setIfInBounds_toArray, List.set_cons_zero, List.set_cons_succ]
    refine reg_take (i := 3) (v := ?_) rfl (by kernel_rfl) (by kernel_rfl) (by kernel_rfl) (fun _ _ _ h => h) (Or.inl ⟨by kernel_rfl, ?_⟩) hS ?_
    rotate_left
    · (intro w' hSw; have u0 := hSw.cell 0 1 rfl rfl; go_simp <;> with_reducible rfl)
    try simp only [List.getElem_toArray, List.getElem_cons_succ, List.getElem_cons_zero, Act.put, List.setIfInBounds_toArray, List.set_cons_zero, List.set_cons_succ]
    refine reg_take (i := 5) (v := ?_) rfl (by kernel_rfl) (by kernel_rfl) (by kernel_rfl) (fun _ _ _ h => h) (Or.inl ⟨by kernel_rfl, ?_⟩) hS ?_
    rotate_left
    · (intro w' hSw; go_simp <;> with_reducible rfl)
    try simp only [List.getElem_toArray, List.getElem_cons_succ, List.getElem_cons_zero, Act.put, List.setIfInBounds_toArray, List.set_cons_zero, List.set_cons_succ]
    refine reg_take (i := 6) (v := ?_) rfl (by kernel_rfl) (by kernel_rfl) (by kernel_rfl) (fun _ _ _ h => h) (Or.inl ⟨by kernel_rfl, ?_⟩) hS ?_
    rotate_left
    · (intro w' hSw; go_simp <;> with_reducible rfl)
    try simp only [List.getElem_toArray, List.getElem_cons_succ, List.getElem_cons_zero, Act.put, List.setIfInBounds_toArray, List.set_cons_zero, List.set_cons_succ]
    refine reg_take (i := 7) (v := ?_) rfl (by kernel_rfl) (by kernel_rfl) (by kernel_rfl) (fun _ _ _ h => h) (Or.inl ⟨by kernel_rfl, ?_⟩) hS ?_
    rotate_left
    · (intro w' hSw; have u0 := hSw.cell 0 2 rfl rfl; go_simp <;> with_reducible rfl)
    try simp only [List.getElem_toArray, List.getElem_cons_succ, List.getElem_cons_zero, Act.put, List.setIfInBounds_toArray, List.set_cons_zero, List.set_cons_succ]
    refine reg_call (i := 4) rfl (by kernel_rfl) (fun K hK => ?_)
    have HK := Lib.hid hK
    clear hK
    go_simp
    refine (putInt_any _ A1 n1 c1 B (hiOf a.s) HB.out.2.1 (sl_later HB.out.2.2.1 (Below.refl _ _).drew) hc1 (by omega) HE.out.2.1 HE.out.2.2).mono ?_
    rintro e w2 ⟨v, rfl, ho, hb⟩
    have hlen2 : (B ++ vput (zig (hiOf a.s))).length ≤ len + 20 := by
      have := vput_len10 (zig_lt HE.out.2.1 HE.out.2.2)
      rw [List.length_append, HB.out.2.1]; omega
    obtain ⟨B2, hB2⟩ : ∃ C, C = B ++ vput (zig (hiOf a.s)) := ⟨_, rfl⟩
    rw [← hB2] at ho hlen2
    obtain ⟨n2, hn2⟩ : ∃ n, n = B2.length := ⟨_, rfl⟩
    rw [← hn2] at ho hlen2
    obtain ⟨A2, c2, hv2, hc2, -⟩ := own_form ho
    subst hv2
    have H2 := Lib.hid (And.intro hB2 (And.intro hn2.symm (And.intro (ow_sl ho) (hS.call hb))))
    clear ho hb hB2 hn2
    go_wp2_with fail
    refine HK.out.to (Own w [(x, 28, #[.int .i64 a.n, .int .i64 (hiOf a.s), .int .u64 (loOf a.s), .int .i64 a.lo, .int .i64 a.hi, .int .i64 a.f.t, .int .i64 a.f.v, .int .i64 a.f.s, .int .i64 a.l.t, .int .i64 a.l.v, .int .i64 a.l.s])]) (fun _ h => h) (H2.out.2.2.2) ?_
    clear HK hS
    have hS : (Own w [(x, 28, #[.int .i64 a.n, .int .i64 (hiOf a.s), .int .u64 (loOf a.s), .int .i64 a.lo, .int .i64 a.hi, .int .i64 a.f.t, .int .i64 a.f.v, .int .i64 a.f.s, .int .i64 a.l.t, .int .i64 a.l.v, .int .i64 a.l.s])]) (w2) := H2.out.2.2.2
    try simp only [List.getElem_toArray, List.getElem_cons_succ, List.getElem_cons_zero, Act.put, List.setIfInBounds_toArray, List.set_cons_zero, List.set_cons_succ]
    refine reg_call (i := 8) rfl (by kernel_rfl) (fun K hK => ?_)
    have HK := Lib.hid hK
    clear hK
    go_simp
    refine (vput_any _ A2 n2 c2 B2 (loOf a.s) H2.out.2.1 H2.out.2.2.1 hc2 (by omega) (loOf_nonneg _) (loOf_lt _)).mono ?_
    rintro e w3 ⟨v, rfl, ho, hb⟩
    have hlen3 : (B2 ++ vput (loOf a.s).toNat).length ≤ len + 30 := by
      have := vput_len10 (u := (loOf a.s).toNat) (by have := loOf_lt a.s; have := loOf_nonneg a.s; omega)
      rw [List.length_append, H2.out.2.1]; omega
    obtain ⟨B3, hB3⟩ : ∃ C, C = B2 ++ vput (loOf a.s).toNat := ⟨_, rfl⟩
    rw [← hB3] at ho hlen3
    have hS3 := hS.call hb
    have ho3 := own_base ho H2.out.2.2.2.size
    have e3 : bs ++ aput a = B3 ++ cat ((aggI a).map zig) := by rw [HE.out.1, hB3, H2.out.1]; simp only [List.append_assoc]
    have H3 := Lib.hid (And.intro ho3 (And.intro hS3 (And.intro e3 (own_form ho3))))
    clear ho hb hB3 hS3 ho3 e3
    go_wp2_with fail
    refine HK.out.to (Own w [(x, 28, #[.int .i64 a.n, .int .i64 (hiOf a.s), .int .u64 (loOf a.s), .int .i64 a.lo, .int .i64 a.hi, .int .i64 a.f.t, .int .i64 a.f.v, .int .i64 a.f.s, .int .i64 a.l.t, .int .i64 a.l.v, .int .i64 a.l.s])]) (fun _ h => h) (H3.out.2.1) ?_
    clear HK hS
    have hS : (Own w [(x, 28, #[.int .i64 a.n, .int .i64 (hiOf a.s), .int .u64 (loOf a.s), .int .i64 a.lo, .int .i64 a.hi, .int .i64 a.f.t, .int .i64 a.f.v, .int .i64 a.f.s, .int .i64 a.l.t, .int .i64 a.l.v, .int .i64 a.l.s])]) (w3) := H3.out.2.1
    try simp only [List.getElem_toArray, List.getElem_cons_succ, List.getElem_cons_zero, Act.put, List.setIfInBounds_toArray, List.set_cons_zero, List.set_cons_succ]
    refine reg_take (i := 9) (v := ?_) rfl (by kernel_rfl) (by kernel_rfl) (by kernel_rfl) (fun _ _ _ h => h) (Or.inl ⟨by kernel_rfl, ?_⟩) hS ?_
    rotate_left
    · (intro w' hSw; go_simp <;> with_reducible rfl)
    try simp only [List.getElem_toArray, List.getElem_cons_succ, List.getElem_cons_zero, Act.put, List.setIfInBounds_toArray, List.set_cons_zero, List.set_cons_succ]
    refine wpAnyH_done (by kernel_rfl) ?_ _
    try simp only [List.getElem_toArray, List.getElem_cons_succ, List.getElem_cons_zero]
    try simp only [List.getElem_toArray, List.getElem_cons_succ, List.getElem_cons_zero, Act.put, List.setIfInBounds_toArray, List.set_cons_zero, List.set_cons_succ]
    clear hS
    have hS := H3.out.2.1
    have z0_0 := hS.cell 0 0 rfl rfl; have z0_1 := hS.cell 0 1 rfl rfl; have z0_2 := hS.cell 0 2 rfl rfl; have z0_3 := hS.cell 0 3 rfl rfl; have z0_4 := hS.cell 0 4 rfl rfl; have z0_5 := hS.cell 0 5 rfl rfl; have z0_6 := hS.cell 0 6 rfl rfl; have z0_7 := hS.cell 0 7 rfl rfl; have z0_8 := hS.cell 0 8 rfl rfl; have z0_9 := hS.cell 0 9 rfl rfl; have z0_10 := hS.cell 0 10 rfl rfl
    clear hS
    obtain ⟨A3, c3, hv3, hc3, -⟩ := H3.out.2.2.2
    subst hv3
    go_wp2_with fail
    clear z0_0 z0_1 z0_2 z0_3 z0_4 z0_5 z0_6 z0_7 z0_8 z0_9 z0_10
    go_loopw [0, 6, 48] (fun s0 s6 i wr => ∃ (k : Nat) (p : List Nat), k ≤ 8 ∧ i = .int .i64 k ∧ p = B3 ++ cat (((aggI a).take k).map zig) ∧ p.length ≤ len + 30 + 10 * k ∧ wr.ownsRow w.heap.size 5 1 s0 p.length (p.map byteV) ∧ Own w [(x, 28, #[.int .i64 a.n, .int .i64 (hiOf a.s), .int .u64 (loOf a.s), .int .i64 a.lo, .int .i64 a.hi, .int .i64 a.f.t, .int .i64 a.f.v, .int .i64 a.f.s, .int .i64 a.l.t, .int .i64 a.l.v, .int .i64 a.l.s])] wr) (fun _ _ i _ => 8 - (intOf i).toNat)
    case atStart => exact ⟨0, B3, by omega, rfl, by simp [cat], by omega, H3.out.1, H3.out.2.1⟩
    case round =>
      obtain ⟨k, p, hk, rfl, hp, hpl, ho, hS⟩ := hrel
      by_cases hlt : k < 8
      · have hok := aggI_ok HO.out.2.2.2.2.2
        have hst := cat_step (aggI a) k (by exact hlt)
        obtain ⟨n4, hn4⟩ : ∃ n, n = p.length := ⟨_, rfl⟩
        rw [← hn4] at ho hpl
        obtain ⟨A4, c4, hv4, hc4, -⟩ := own_form ho
        subst hv4
        have HP := Lib.hid (And.intro hp (And.intro hn4.symm (And.intro (ow_sl ho) (And.intro hS (And.intro hst ho)))))
        have HK := Lib.hid hok
        clear hp hn4 ho hS hst hok
        rcases (show k = 0 ∨ k = 1 ∨ k = 2 ∨ k = 3 ∨ k = 4 ∨ k = 5 ∨ k = 6 ∨ k = 7 by omega) with rfl | rfl | rfl | rfl | rfl | rfl | rfl | rfl
        · skip
          have hz : I64 a.lo := HK.out _ (by unfold aggI; simp)
          have HZ := Lib.hid hz
          clear hz
          have hx : ∀ w : World, (Instr.index 33 (.agg #[.int .i64 a.lo, .int .i64 a.hi, .int .i64 a.f.t, .int .i64 a.f.v, .int .i64 a.f.s, .int .i64 a.l.t, .int .i64 a.l.v, .int .i64 a.l.s]) (.int .i64 0)).run Tryd.prog w = .ok (.int .i64 a.lo) w := fun w => by kernel_rfl
          go_wp2_with fail
          refine (putInt_any _ A4 n4 c4 p a.lo HP.out.2.1 HP.out.2.2.1 hc4 (by omega) HZ.out.1 HZ.out.2).mono ?_
          rintro e w4 ⟨v, rfl, ho, hb⟩
          have hlen4 : (p ++ vput (zig a.lo)).length ≤ len + 30 + 10 * (0 + 1) := by
            have := vput_len10 (zig_lt HZ.out.1 HZ.out.2)
            rw [List.length_append, HP.out.2.1]; omega
          have e4 : p ++ vput (zig a.lo) = B3 ++ cat (((aggI a).take (0 + 1)).map zig) := by rw [HP.out.1, HP.out.2.2.2.2.1, List.append_assoc]; rfl
          have H4 := Lib.hid (And.intro (own_base ho HP.out.2.2.2.1.size) (And.intro (HP.out.2.2.2.1.call hb) (And.intro e4 hlen4)))
          clear ho hb e4 hlen4
          go_wp2_with fail
          go_roundw
          case rel => exact ⟨0 + 1, _, by omega, by go_num, H4.out.2.2.1, H4.out.2.2.2, H4.out.1, H4.out.2.1⟩
          case measure => simp [intOf] <;> omega
        · skip
          have hz : I64 a.hi := HK.out _ (by unfold aggI; simp)
          have HZ := Lib.hid hz
          clear hz
          have hx : ∀ w : World, (Instr.index 33 (.agg #[.int .i64 a.lo, .int .i64 a.hi, .int .i64 a.f.t, .int .i64 a.f.v, .int .i64 a.f.s, .int .i64 a.l.t, .int .i64 a.l.v, .int .i64 a.l.s]) (.int .i64 1)).run Tryd.prog w = .ok (.int .i64 a.hi) w := fun w => by kernel_rfl
          go_wp2_with fail
          refine (putInt_any _ A4 n4 c4 p a.hi HP.out.2.1 HP.out.2.2.1 hc4 (by omega) HZ.out.1 HZ.out.2).mono ?_
          rintro e w4 ⟨v, rfl, ho, hb⟩
          have hlen4 : (p ++ vput (zig a.hi)).length ≤ len + 30 + 10 * (1 + 1) := by
            have := vput_len10 (zig_lt HZ.out.1 HZ.out.2)
            rw [List.length_append, HP.out.2.1]; omega
          have e4 : p ++ vput (zig a.hi) = B3 ++ cat (((aggI a).take (1 + 1)).map zig) := by rw [HP.out.1, HP.out.2.2.2.2.1, List.append_assoc]; rfl
          have H4 := Lib.hid (And.intro (own_base ho HP.out.2.2.2.1.size) (And.intro (HP.out.2.2.2.1.call hb) (And.intro e4 hlen4)))
          clear ho hb e4 hlen4
          go_wp2_with fail
          go_roundw
          case rel => exact ⟨1 + 1, _, by omega, by go_num, H4.out.2.2.1, H4.out.2.2.2, H4.out.1, H4.out.2.1⟩
          case measure => simp [intOf] <;> omega
        · skip
          have hz : I64 a.f.t := HK.out _ (by unfold aggI; simp)
          have HZ := Lib.hid hz
          clear hz
          have hx : ∀ w : World, (Instr.index 33 (.agg #[.int .i64 a.lo, .int .i64 a.hi, .int .i64 a.f.t, .int .i64 a.f.v, .int .i64 a.f.s, .int .i64 a.l.t, .int .i64 a.l.v, .int .i64 a.l.s]) (.int .i64 2)).run Tryd.prog w = .ok (.int .i64 a.f.t) w := fun w => by kernel_rfl
          go_wp2_with fail
          refine (putInt_any _ A4 n4 c4 p a.f.t HP.out.2.1 HP.out.2.2.1 hc4 (by omega) HZ.out.1 HZ.out.2).mono ?_
          rintro e w4 ⟨v, rfl, ho, hb⟩
          have hlen4 : (p ++ vput (zig a.f.t)).length ≤ len + 30 + 10 * (2 + 1) := by
            have := vput_len10 (zig_lt HZ.out.1 HZ.out.2)
            rw [List.length_append, HP.out.2.1]; omega
          have e4 : p ++ vput (zig a.f.t) = B3 ++ cat (((aggI a).take (2 + 1)).map zig) := by rw [HP.out.1, HP.out.2.2.2.2.1, List.append_assoc]; rfl
          have H4 := Lib.hid (And.intro (own_base ho HP.out.2.2.2.1.size) (And.intro (HP.out.2.2.2.1.call hb) (And.intro e4 hlen4)))
          clear ho hb e4 hlen4
          go_wp2_with fail
          go_roundw
          case rel => exact ⟨2 + 1, _, by omega, by go_num, H4.out.2.2.1, H4.out.2.2.2, H4.out.1, H4.out.2.1⟩
          case measure => simp [intOf] <;> omega
        · skip
          have hz : I64 a.f.v := HK.out _ (by unfold aggI; simp)
          have HZ := Lib.hid hz
          clear hz
          have hx : ∀ w : World, (Instr.index 33 (.agg #[.int .i64 a.lo, .int .i64 a.hi, .int .i64 a.f.t, .int .i64 a.f.v, .int .i64 a.f.s, .int .i64 a.l.t, .int .i64 a.l.v, .int .i64 a.l.s]) (.int .i64 3)).run Tryd.prog w = .ok (.int .i64 a.f.v) w := fun w => by kernel_rfl
          go_wp2_with fail
          refine (putInt_any _ A4 n4 c4 p a.f.v HP.out.2.1 HP.out.2.2.1 hc4 (by omega) HZ.out.1 HZ.out.2).mono ?_
          rintro e w4 ⟨v, rfl, ho, hb⟩
          have hlen4 : (p ++ vput (zig a.f.v)).length ≤ len + 30 + 10 * (3 + 1) := by
            have := vput_len10 (zig_lt HZ.out.1 HZ.out.2)
            rw [List.length_append, HP.out.2.1]; omega
          have e4 : p ++ vput (zig a.f.v) = B3 ++ cat (((aggI a).take (3 + 1)).map zig) := by rw [HP.out.1, HP.out.2.2.2.2.1, List.append_assoc]; rfl
          have H4 := Lib.hid (And.intro (own_base ho HP.out.2.2.2.1.size) (And.intro (HP.out.2.2.2.1.call hb) (And.intro e4 hlen4)))
          clear ho hb e4 hlen4
          go_wp2_with fail
          go_roundw
          case rel => exact ⟨3 + 1, _, by omega, by go_num, H4.out.2.2.1, H4.out.2.2.2, H4.out.1, H4.out.2.1⟩
          case measure => simp [intOf] <;> omega
        · skip
          have hz : I64 a.f.s := HK.out _ (by unfold aggI; simp)
          have HZ := Lib.hid hz
          clear hz
          have hx : ∀ w : World, (Instr.index 33 (.agg #[.int .i64 a.lo, .int .i64 a.hi, .int .i64 a.f.t, .int .i64 a.f.v, .int .i64 a.f.s, .int .i64 a.l.t, .int .i64 a.l.v, .int .i64 a.l.s]) (.int .i64 4)).run Tryd.prog w = .ok (.int .i64 a.f.s) w := fun w => by kernel_rfl
          go_wp2_with fail
          refine (putInt_any _ A4 n4 c4 p a.f.s HP.out.2.1 HP.out.2.2.1 hc4 (by omega) HZ.out.1 HZ.out.2).mono ?_
          rintro e w4 ⟨v, rfl, ho, hb⟩
          have hlen4 : (p ++ vput (zig a.f.s)).length ≤ len + 30 + 10 * (4 + 1) := by
            have := vput_len10 (zig_lt HZ.out.1 HZ.out.2)
            rw [List.length_append, HP.out.2.1]; omega
          have e4 : p ++ vput (zig a.f.s) = B3 ++ cat (((aggI a).take (4 + 1)).map zig) := by rw [HP.out.1, HP.out.2.2.2.2.1, List.append_assoc]; rfl
          have H4 := Lib.hid (And.intro (own_base ho HP.out.2.2.2.1.size) (And.intro (HP.out.2.2.2.1.call hb) (And.intro e4 hlen4)))
          clear ho hb e4 hlen4
          go_wp2_with fail
          go_roundw
          case rel => exact ⟨4 + 1, _, by omega, by go_num, H4.out.2.2.1, H4.out.2.2.2, H4.out.1, H4.out.2.1⟩
          case measure => simp [intOf] <;> omega
        · skip
          have hz : I64 a.l.t := HK.out _ (by unfold aggI; simp)
          have HZ := Lib.hid hz
          clear hz
          have hx : ∀ w : World, (Instr.index 33 (.agg #[.int .i64 a.lo, .int .i64 a.hi, .int .i64 a.f.t, .int .i64 a.f.v, .int .i64 a.f.s, .int .i64 a.l.t, .int .i64 a.l.v, .int .i64 a.l.s]) (.int .i64 5)).run Tryd.prog w = .ok (.int .i64 a.l.t) w := fun w => by kernel_rfl
          go_wp2_with fail
          refine (putInt_any _ A4 n4 c4 p a.l.t HP.out.2.1 HP.out.2.2.1 hc4 (by omega) HZ.out.1 HZ.out.2).mono ?_
          rintro e w4 ⟨v, rfl, ho, hb⟩
          have hlen4 : (p ++ vput (zig a.l.t)).length ≤ len + 30 + 10 * (5 + 1) := by
            have := vput_len10 (zig_lt HZ.out.1 HZ.out.2)
            rw [List.length_append, HP.out.2.1]; omega
          have e4 : p ++ vput (zig a.l.t) = B3 ++ cat (((aggI a).take (5 + 1)).map zig) := by rw [HP.out.1, HP.out.2.2.2.2.1, List.append_assoc]; rfl
          have H4 := Lib.hid (And.intro (own_base ho HP.out.2.2.2.1.size) (And.intro (HP.out.2.2.2.1.call hb) (And.intro e4 hlen4)))
          clear ho hb e4 hlen4
          go_wp2_with fail
          go_roundw
          case rel => exact ⟨5 + 1, _, by omega, by go_num, H4.out.2.2.1, H4.out.2.2.2, H4.out.1, H4.out.2.1⟩
          case measure => simp [intOf] <;> omega
        · skip
          have hz : I64 a.l.v := HK.out _ (by unfold aggI; simp)
          have HZ := Lib.hid hz
          clear hz
          have hx : ∀ w : World, (Instr.index 33 (.agg #[.int .i64 a.lo, .int .i64 a.hi, .int .i64 a.f.t, .int .i64 a.f.v, .int .i64 a.f.s, .int .i64 a.l.t, .int .i64 a.l.v, .int .i64 a.l.s]) (.int .i64 6)).run Tryd.prog w = .ok (.int .i64 a.l.v) w := fun w => by kernel_rfl
          go_wp2_with fail
          refine (putInt_any _ A4 n4 c4 p a.l.v HP.out.2.1 HP.out.2.2.1 hc4 (by omega) HZ.out.1 HZ.out.2).mono ?_
          rintro e w4 ⟨v, rfl, ho, hb⟩
          have hlen4 : (p ++ vput (zig a.l.v)).length ≤ len + 30 + 10 * (6 + 1) := by
            have := vput_len10 (zig_lt HZ.out.1 HZ.out.2)
            rw [List.length_append, HP.out.2.1]; omega
          have e4 : p ++ vput (zig a.l.v) = B3 ++ cat (((aggI a).take (6 + 1)).map zig) := by rw [HP.out.1, HP.out.2.2.2.2.1, List.append_assoc]; rfl
          have H4 := Lib.hid (And.intro (own_base ho HP.out.2.2.2.1.size) (And.intro (HP.out.2.2.2.1.call hb) (And.intro e4 hlen4)))
          clear ho hb e4 hlen4
          go_wp2_with fail
          go_roundw
          case rel => exact ⟨6 + 1, _, by omega, by go_num, H4.out.2.2.1, H4.out.2.2.2, H4.out.1, H4.out.2.1⟩
          case measure => simp [intOf] <;> omega
        · skip
          have hz : I64 a.l.s := HK.out _ (by unfold aggI; simp)
          have HZ := Lib.hid hz
          clear hz
          have hx : ∀ w : World, (Instr.index 33 (.agg #[.int .i64 a.lo, .int .i64 a.hi, .int .i64 a.f.t, .int .i64 a.f.v, .int .i64 a.f.s, .int .i64 a.l.t, .int .i64 a.l.v, .int .i64 a.l.s]) (.int .i64 7)).run Tryd.prog w = .ok (.int .i64 a.l.s) w := fun w => by kernel_rfl
          go_wp2_with fail
          refine (putInt_any _ A4 n4 c4 p a.l.s HP.out.2.1 HP.out.2.2.1 hc4 (by omega) HZ.out.1 HZ.out.2).mono ?_
          rintro e w4 ⟨v, rfl, ho, hb⟩
          have hlen4 : (p ++ vput (zig a.l.s)).length ≤ len + 30 + 10 * (7 + 1) := by
            have := vput_len10 (zig_lt HZ.out.1 HZ.out.2)
            rw [List.length_append, HP.out.2.1]; omega
          have e4 : p ++ vput (zig a.l.s) = B3 ++ cat (((aggI a).take (7 + 1)).map zig) := by rw [HP.out.1, HP.out.2.2.2.2.1, List.append_assoc]; rfl
          have H4 := Lib.hid (And.intro (own_base ho HP.out.2.2.2.1.size) (And.intro (HP.out.2.2.2.1.call hb) (And.intro e4 hlen4)))
          clear ho hb e4 hlen4
          go_wp2_with fail
          go_roundw
          case rel => exact ⟨7 + 1, _, by omega, by go_num, H4.out.2.2.1, H4.out.2.2.2, H4.out.1, H4.out.2.1⟩
          case measure => simp [intOf] <;> omega
      · obtain rfl : k = 8 := by omega
        have HF := Lib.hid (And.intro hp (And.intro ho hS))
        clear hp ho hS hpl
        go_wp2_with fail
        go_ret
        refine ⟨_, rfl, ?_, HF.out.2.2.bel⟩
        have e5 : bs ++ aput a = p := by rw [HF.out.1, H3.out.2.2.1]; rfl
        rw [e5]
        exact HF.out.2.1
end Go.Proofs.YthhgnngpaagagaaDoor
