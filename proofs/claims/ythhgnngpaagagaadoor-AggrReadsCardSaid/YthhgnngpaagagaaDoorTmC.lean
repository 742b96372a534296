/-
  The contract of tidemillref08.Put. (Printed by mk.py.)
-/
import Derived.Test.YthhgnngpaagagaaDoorAvB
import Derived.Test.YthhgnngpaagagaaDoorLmC
import Derived.Test.YthhgnngpaagagaaDoorLmS
import Derived.Deep.DeepCutAuto
namespace Go.Proofs.YthhgnngpaagagaaDoor
open Go.RowKit
set_option linter.unusedVariables false
set_option linter.unusedSimpArgs false
set_option maxRecDepth 100000 in
set_option maxHeartbeats 8000000 in
theorem rput_any (w : World) (A : Option Addr) (len c : Nat) (bs : List Nat) (a : Ag) (ha : AgFull a) (hl : bs.length = len) (hsl : Sl w (fun k => k < w.heap.size) A len (byteC bs)) (hsm : len ≤ 1099511627000) :
    Calls Tryd.prog 11 #[.slice A len c, .agg #[.int .i64 a.n, .int .i64 (lim (a.s) 0), .int .i64 (lim (a.s) 1), .int .i64 (lim (a.s) 2), .int .i64 (lim (a.s) 3), .int .i64 (lim (a.s) 4), .int .i64 (lim (a.s) 5), .int .i64 (lim (a.s) 6), .int .i64 (lim (a.s) 7), .int .i64 a.lo, .int .i64 a.hi, .int .i64 a.f.t, .int .i64 a.f.v, .int .i64 a.f.s, .int .i64 a.l.t, .int .i64 a.l.v, .int .i64 a.l.s]] w (VPutPost w (bs ++ aput a)) := by
  have hwh := whole_any a.s ha.ok.2.1
  generalize lim a.s = fa at hwh ⊢
  obtain ⟨x, hx⟩ : ∃ x, x = w.heap.size := ⟨_, rfl⟩
  have o0 := Own.own1 w hx 35 #[.int .i64 a.n, .int .i64 (fa 0), .int .i64 (fa 1), .int .i64 (fa 2), .int .i64 (fa 3), .int .i64 (fa 4), .int .i64 (fa 5), .int .i64 (fa 6), .int .i64 (fa 7), .int .i64 a.lo, .int .i64 a.hi, .int .i64 a.f.t, .int .i64 a.f.v, .int .i64 a.f.s, .int .i64 a.l.t, .int .i64 a.l.v, .int .i64 a.l.s]
  obtain ⟨u, hu⟩ : ∃ u, u = (a.n % 18446744073709551616).toNat := ⟨_, rfl⟩
  have ku : IntKind.u64.wrap a.n = (u : Int) := by rw [IntKind.wrap_u64]; omega
  have hu64 : u < 18446744073709551616 := by omega
  have HO := Lib.hid (And.intro hx (And.intro o0 (And.intro (sl_later hsl o0.bel) (And.intro hl (And.intro hu ha)))))
  have HWH := Lib.hid hwh
  clear hx o0 hsl hl hu ha hwh
  go_enter Tryd.func11, Tryd.ntmps11
  go_wp2_with fail
  refine (rvput_any _ A len c bs (u : Int) HO.out.2.2.2.1 HO.out.2.2.1 (by omega) (by omega) (by omega)).mono ?_
  rintro e w1 ⟨v, rfl, ho, hb⟩
  rw [Int.toNat_natCast] at ho
  have hlen : (bs ++ vput u).length ≤ len + 10 := by
    have := vput_len10 hu64
    rw [List.length_append, HO.out.2.2.2.1]; omega
  obtain ⟨B, hB⟩ : ∃ B, B = bs ++ vput u := ⟨_, rfl⟩
  rw [← hB] at ho hlen
  obtain ⟨n1, hn1⟩ : ∃ n, n = B.length := ⟨_, rfl⟩
  rw [← hn1] at ho hlen
  obtain ⟨A1, c1, hv1, hc1, -⟩ := own_form ho
  subst hv1
  have hS := HO.out.2.1.call hb
  have ho' := own_base ho (by have := HO.out.2.1.bel.size; exact this)
  have HB := Lib.hid (And.intro hB (And.intro hn1.symm (And.intro (ow_sl ho) (And.intro hS ho'))))
  clear hb hB hn1 ho ho'
  rw [← HO.out.1]
  have z0_0 := hS.cell 0 0 rfl rfl; have z0_1 := hS.cell 0 1 rfl rfl; have z0_2 := hS.cell 0 2 rfl rfl; have z0_3 := hS.cell 0 3 rfl rfl; have z0_4 := hS.cell 0 4 rfl rfl; have z0_5 := hS.cell 0 5 rfl rfl; have z0_6 := hS.cell 0 6 rfl rfl; have z0_7 := hS.cell 0 7 rfl rfl; have z0_8 := hS.cell 0 8 rfl rfl; have z0_9 := hS.cell 0 9 rfl rfl; have z0_10 := hS.cell 0 10 rfl rfl; have z0_11 := hS.cell 0 11 rfl rfl; have z0_12 := hS.cell 0 12 rfl rfl; have z0_13 := hS.cell 0 13 rfl rfl; have z0_14 := hS.cell 0 14 rfl rfl; have z0_15 := hS.cell 0 15 rfl rfl; have z0_16 := hS.cell 0 16 rfl rfl
  clear hS ku
  by_cases h0 : a.n = 0
  · have d : (a.n == 0) = true := by simp [h0]
    have e1 : bs ++ aput a = B := by
      have hu0 : u = 0 := by rw [HO.out.2.2.2.2.1, h0]; rfl
      rw [aput_zero h0, HB.out.1, hu0]
    have HE := Lib.hid e1
    clear h0 e1
    go_wp2_with fail
    go_ret
    refine ⟨_, rfl, ?_, HB.out.2.2.2.1.bel⟩
    rw [HE.out, HB.out.2.1]
    exact HB.out.2.2.2.2
  · have d : (a.n == 0) = false := by simp [h0]
    have e1 := aput_some h0
    rw [← HO.out.2.2.2.2.1, ] at e1
    have e2 : bs ++ aput a = B ++ (vput (zig (hiOf a.s)) ++ (vput (loOf a.s).toNat ++ cat ((aggI a).map zig))) := by rw [e1, HB.out.1, List.append_assoc]
    have hh := HO.out.2.2.2.2.2.ok.2.1.hi
    have HE := Lib.hid (And.intro e2 hh)
    clear h0 e1 e2 hh
    go_wp2_with fail
    refine (HWH.out _).mono ?_
    rintro e wq ⟨rfl, hbq⟩
    have HQ := Lib.hid (And.intro (HB.out.2.2.2.1.call hbq) (sl_later HB.out.2.2.1 hbq))
    clear hbq z0_0 z0_1 z0_2 z0_3 z0_4 z0_5 z0_6 z0_7 z0_8 z0_9 z0_10 z0_11 z0_12 z0_13 z0_14 z0_15 z0_16
    obtain ⟨hh, hhh⟩ : ∃ h, h = hiOf a.s := ⟨_, rfl⟩
    obtain ⟨ll, hll⟩ : ∃ l, l = loOf a.s := ⟨_, rfl⟩
    rw [← hhh, ← hll]
    have HL := Lib.hid (And.intro hhh hll)
    clear hhh hll
    go_wp2_with fail
    refine (rputInt_any _ A1 n1 c1 B hh HB.out.2.1 HQ.out.2 (by omega) (by rw [HL.out.1]; exact HE.out.2.1) (by rw [HL.out.1]; exact HE.out.2.2)).mono ?_
    rintro e w2 ⟨v, rfl, ho, hb⟩
    rw [HL.out.1] at ho
    have hlen2 : (B ++ vput (zig (hiOf a.s))).length ≤ len + 20 := by
      have := vput_len10 (zig_lt HE.out.2.1 HE.out.2.2)
      rw [List.length_append, HB.out.2.1]; omega
    obtain ⟨B2, hB2⟩ : ∃ C, C = B ++ vput (zig (hiOf a.s)) := ⟨_, rfl⟩
    rw [← hB2] at ho hlen2
    obtain ⟨n2, hn2⟩ : ∃ n, n = B2.length := ⟨_, rfl⟩
    rw [← hn2] at ho hlen2
    obtain ⟨A2, c2, hv2, hc2, -⟩ := own_form ho
    subst hv2
    have H2 := Lib.hid (And.intro hB2 (And.intro hn2.symm (And.intro (ow_sl ho) (HQ.out.1.call hb))))
    clear ho hb hB2 hn2
    go_wp2_with fail
    refine (rvput_any _ A2 n2 c2 B2 ll H2.out.2.1 H2.out.2.2.1 (by omega) (by rw [HL.out.2]; exact loOf_nonneg _) (by rw [HL.out.2]; exact loOf_lt _)).mono ?_
    rintro e w3 ⟨v, rfl, ho, hb⟩
    rw [HL.out.2] at ho
    have hlen3 : (B2 ++ vput (loOf a.s).toNat).length ≤ len + 30 := by
      have := vput_len10 (u := (loOf a.s).toNat) (by have := loOf_lt a.s; have := loOf_nonneg a.s; omega)
      rw [List.length_append, H2.out.2.1]; omega
    obtain ⟨B3, hB3⟩ : ∃ C, C = B2 ++ vput (loOf a.s).toNat := ⟨_, rfl⟩
    rw [← hB3] at ho hlen3
    have hS3 := H2.out.2.2.2.call hb
    have ho3 := own_base ho H2.out.2.2.2.bel.size
    have e3 : bs ++ aput a = B3 ++ cat ((aggI a).map zig) := by rw [HE.out.1, hB3, H2.out.1]; simp only [List.append_assoc]
    obtain ⟨A3, c3, hv3, hc3, -⟩ := own_form ho3
    subst hv3
    obtain ⟨y, hy⟩ : ∃ y, y = w3.heap.size := ⟨_, rfl⟩
    obtain ⟨F, hF⟩ : ∃ F : Nat → Int, F = fun j => (aggI a).getD j 0 := ⟨_, rfl⟩
    have o3 : Own w [(x, 35, #[.int .i64 a.n, .int .i64 (fa 0), .int .i64 (fa 1), .int .i64 (fa 2), .int .i64 (fa 3), .int .i64 (fa 4), .int .i64 (fa 5), .int .i64 (fa 6), .int .i64 (fa 7), .int .i64 a.lo, .int .i64 a.hi, .int .i64 a.f.t, .int .i64 a.f.v, .int .i64 a.f.s, .int .i64 a.l.t, .int .i64 a.l.v, .int .i64 a.l.s]), (y, 3, #[.int .i64 (F 0), .int .i64 (F 1), .int .i64 (F 2), .int .i64 (F 3), .int .i64 (F 4), .int .i64 (F 5), .int .i64 (F 6), .int .i64 (F 7)])] (w3.alloc (.cells #[.int .i64 a.lo, .int .i64 a.hi, .int .i64 a.f.t, .int .i64 a.f.v, .int .i64 a.f.s, .int .i64 a.l.t, .int .i64 a.l.v, .int .i64 a.l.s] 3)) := by
      have := hS3.alloc hy 3 #[.int .i64 a.lo, .int .i64 a.hi, .int .i64 a.f.t, .int .i64 a.f.v, .int .i64 a.f.s, .int .i64 a.l.t, .int .i64 a.l.v, .int .i64 a.l.s]
      rw [hF]
      exact this
    have hs3 := hS3
    have z0_0 := hs3.cell 0 0 rfl rfl; have z0_1 := hs3.cell 0 1 rfl rfl; have z0_2 := hs3.cell 0 2 rfl rfl; have z0_3 := hs3.cell 0 3 rfl rfl; have z0_4 := hs3.cell 0 4 rfl rfl; have z0_5 := hs3.cell 0 5 rfl rfl; have z0_6 := hs3.cell 0 6 rfl rfl; have z0_7 := hs3.cell 0 7 rfl rfl; have z0_8 := hs3.cell 0 8 rfl rfl; have z0_9 := hs3.cell 0 9 rfl rfl; have z0_10 := hs3.cell 0 10 rfl rfl; have z0_11 := hs3.cell 0 11 rfl rfl; have z0_12 := hs3.cell 0 12 rfl rfl; have z0_13 := hs3.cell 0 13 rfl rfl; have z0_14 := hs3.cell 0 14 rfl rfl; have z0_15 := hs3.cell 0 15 rfl rfl; have z0_16 := hs3.cell 0 16 rfl rfl
    have hob := own_later ho3 ((Below.refl w3.heap.size w3).alloc (Nat.le_refl _) (.cells #[.int .i64 a.lo, .int .i64 a.hi, .int .i64 a.f.t, .int .i64 a.f.v, .int .i64 a.f.s, .int .i64 a.l.t, .int .i64 a.l.v, .int .i64 a.l.s] 3))
    have H3 := Lib.hid (And.intro hob (And.intro o3 (And.intro e3 (And.intro hy hF))))
    clear ho hb hB3 hS3 ho3 e3 hs3 o3 hy hob
    go_upto_region 8 with (fail)
    clear z0_0 z0_1 z0_2 z0_3 z0_4 z0_5 z0_6 z0_7 z0_8 z0_9 z0_10 z0_11 z0_12 z0_13 z0_14 z0_15 z0_16
    rw [← H3.out.2.2.2.1]
    refine wp_gen (fun wx => wx.ownsRow w.heap.size 5 1 (.slice A3 B3.length c3) B3.length (B3.map byteV) ∧ Own w [(x, 35, #[.int .i64 a.n, .int .i64 (fa 0), .int .i64 (fa 1), .int .i64 (fa 2), .int .i64 (fa 3), .int .i64 (fa 4), .int .i64 (fa 5), .int .i64 (fa 6), .int .i64 (fa 7), .int .i64 a.lo, .int .i64 a.hi, .int .i64 a.f.t, .int .i64 a.f.v, .int .i64 a.f.s, .int .i64 a.l.t, .int .i64 a.l.v, .int .i64 a.l.s]), (y, 3, #[.int .i64 (F 0), .int .i64 (F 1), .int .i64 (F 2), .int .i64 (F 3), .int .i64 (F 4), .int .i64 (F 5), .int .i64 (F 6), .int .i64 (F 7)])] wx) ⟨H3.out.1, H3.out.2.1⟩ ?_
    rintro w4 ⟨ho4, hS4⟩
    have H4 := Lib.hid (And.intro ho4 hS4)
    clear ho4 hS4
    go_wp2_with fail
    go_loopw [0, 8] (fun s0 i wr => ∃ (k : Nat) (p : List Nat), k ≤ 8 ∧ i = .int .i64 k ∧ p = B3 ++ cat (((aggI a).take k).map zig) ∧ p.length ≤ len + 30 + 10 * k ∧ wr.ownsRow w.heap.size 5 1 s0 p.length (p.map byteV) ∧ Own w [(x, 35, #[.int .i64 a.n, .int .i64 (fa 0), .int .i64 (fa 1), .int .i64 (fa 2), .int .i64 (fa 3), .int .i64 (fa 4), .int .i64 (fa 5), .int .i64 (fa 6), .int .i64 (fa 7), .int .i64 a.lo, .int .i64 a.hi, .int .i64 a.f.t, .int .i64 a.f.v, .int .i64 a.f.s, .int .i64 a.l.t, .int .i64 a.l.v, .int .i64 a.l.s]), (y, 3, #[.int .i64 (F 0), .int .i64 (F 1), .int .i64 (F 2), .int .i64 (F 3), .int .i64 (F 4), .int .i64 (F 5), .int .i64 (F 6), .int .i64 (F 7)])] wr) (fun _ i _ => 8 - (intOf i).toNat)
    case atStart => exact ⟨0, B3, by omega, rfl, by simp [cat], by omega, H4.out.1, H4.out.2⟩
    case round =>
      obtain ⟨k, p, hk, rfl, hp, hpl, ho, hS⟩ := hrel
      by_cases hlt : k < 8
      · have hlk : k < (aggI a).length := hlt
        have hFk : F k = (aggI a)[k] := by rw [H3.out.2.2.2.2]; simp [List.getD_eq_getElem?_getD, hlk]
        have hok : I64 (F k) := by rw [hFk]; exact aggI_ok HO.out.2.2.2.2.2 _ (List.getElem_mem _)
        have hst := cat_step (aggI a) k hlk
        rw [← hFk] at hst
        obtain ⟨n4, hn4⟩ : ∃ n, n = p.length := ⟨_, rfl⟩
        rw [← hn4] at ho hpl
        obtain ⟨A4, c4, hv4, hc4, -⟩ := own_form ho
        subst hv4
        have z0 : wr.cell? ⟨y, k, none⟩ = some (.int .i64 (F k)) := by rw [(hS.get 1 rfl).cell k]; exact f8_get F k hlt
        have HP := Lib.hid (And.intro hp (And.intro hn4.symm (And.intro (ow_sl ho) (And.intro hS (And.intro hst ho)))))
        have HK := Lib.hid hok
        clear hp hn4 ho hS hst hok hFk hlk
        obtain ⟨z, hz⟩ : ∃ z, z = F k := ⟨_, rfl⟩
        rw [← hz] at z0
        have HZ := Lib.hid hz
        clear hz
        go_wp2_with fail
        rw [HZ.out]
        refine (rputInt_any _ A4 n4 c4 p (F k) HP.out.2.1 HP.out.2.2.1 (by omega) HK.out.1 HK.out.2).mono ?_
        rintro e w5 ⟨v, rfl, ho, hb⟩
        have hlen4 : (p ++ vput (zig (F k))).length ≤ len + 30 + 10 * (k + 1) := by
          have := vput_len10 (zig_lt HK.out.1 HK.out.2)
          rw [List.length_append, HP.out.2.1]; omega
        have e4 : p ++ vput (zig (F k)) = B3 ++ cat (((aggI a).take (k + 1)).map zig) := by rw [HP.out.1, HP.out.2.2.2.2.1, List.append_assoc]
        have H5 := Lib.hid (And.intro (own_base ho HP.out.2.2.2.1.bel.size) (And.intro (HP.out.2.2.2.1.call hb) (And.intro e4 hlen4)))
        clear ho hb e4 hlen4 z0
        go_wp2_with fail
        go_roundw
        case rel => exact ⟨k + 1, _, by omega, by go_num, H5.out.2.2.1, H5.out.2.2.2, H5.out.1, H5.out.2.1⟩
        case measure => simp [intOf] <;> omega
      · obtain rfl : k = 8 := by omega
        have HF := Lib.hid (And.intro hp (And.intro ho hS))
        clear hp ho hS hpl
        go_wp2_with fail
        go_ret
        refine ⟨_, rfl, ?_, HF.out.2.2.bel⟩
        have e5 : bs ++ aput a = p := by rw [HF.out.1, H3.out.2.2.1]; rfl
        rw [e5]
        exact HF.out.2.1
end Go.Proofs.YthhgnngpaagagaaDoor
