/-
  The walk of the law AggrBack. (Printed by mk.py.)
-/
import Derived.Test.YthhgnngpaagagaaDoorAvB
import Derived.Test.YthhgnngpaagagaaDoorAvC
import Derived.Test.YthhgnngpaagagaaDoorAgM
import Derived.Test.YthhgnngpaagagaaDoorPoints
import Derived.Test.YthhgnngpaagagaaDoorLat
import Derived.Deep.DeepCutAuto
namespace Go.Proofs.YthhgnngpaagagaaDoor
open Go.RowKit
set_option linter.unusedVariables false
set_option linter.unusedSimpArgs false
theorem allA_full (g : Nat → Pt) (hg : ∀ j, PtOk (g j)) (n : Nat) (hn : n ≤ 4294967296) : AgFull (allA g n) := by
  have ho := (allA_is g hg n hn).ok hn
  rcases Nat.eq_zero_or_pos n with h0 | h0
  · subst h0
    exact ⟨ho, ⟨by unfold I64 allA zeroA; simp, by unfold I64 allA zeroA; simp, by unfold I64 allA zeroA; simp⟩, ⟨by unfold I64 allA zeroA; simp, by unfold I64 allA zeroA; simp, by unfold I64 allA zeroA; simp⟩⟩
  · have h := all_has g hg n h0 hn
    obtain ⟨j1, l1, r1⟩ := (upTo_mem g n _).1 h.fi
    obtain ⟨j2, l2, r2⟩ := (upTo_mem g n _).1 h.la
    refine ⟨ho, ?_, ?_⟩
    · rw [← r1]; exact hg _
    · rw [← r2]; exact hg _
theorem allA_zero (g : Nat → Pt) (hg : ∀ j, PtOk (g j)) (n : Nat) (hn : n ≤ 4294967296) (h : (allA g n).n = 0) : allA g n = zeroA := by
  have h1 := (allA_is g hg n hn).n
  have : n = 0 := by omega
  subst this
  rfl
set_option maxRecDepth 100000 in
set_option maxHeartbeats 8000000 in
theorem aggrBack_walk (a0 : Option Addr) (len0 cap0 : Nat) (f0 : Nat → Pt) (a1 : Option Addr) (len1 cap1 : Nat) (z1 : List Int) (w : World) (w0 : IsPoints w a0 len0 cap0 f0) (w1 : IsRow .u8 w a1 len1 cap1 z1) (hv : HErr w) :
    Calls Tryd.prog 4 #[.slice a0 len0 cap0, .slice a1 len1 cap1] w fun e w' => e = .returned (.bool true) ∧ Below w.heap.size w w' := by
  obtain ⟨g, hg, hsl⟩ := w0.cut len0 (Nat.le_refl _)
  obtain ⟨ms, hbl, hbb, hbs⟩ := w1.bytes len1 (Nat.le_refl _)
  have l1 := w0.le
  have l2 := w0.cap_le
  have l3 := w1.le
  unfold maxLen at l2
  have hm2 : len1 ≤ 9223372036854775807 := by
    rcases w1 with ⟨_, h, _, _⟩ | ⟨x, _, h, h', _⟩
    · omega
    · unfold maxLen at h'; omega
  have hm1 : len0 ≤ 9223372036854775807 := by omega
  clear w0 w1 l1 l2 l3
  have HX := Lib.hid (And.intro hg hsl)
  have HM := Lib.hid (And.intro hbl (And.intro hbb (And.intro hbs hv)))
  clear hg hsl hbl hbb hbs hv
  go_enter Tryd.func4, Tryd.ntmps4
  by_cases hbig : 50 < len0 ∨ 500 < len1
  · by_cases hbig1 : 50 < len0
    · have d1 : decide ((50 : Int) < (len0 : Int)) = true := by simp; omega
      go_wp2_with fail
      go_ret
      exact ⟨rfl, Below.refl _ _⟩
    · have d1 : decide ((50 : Int) < (len0 : Int)) = false := by simp; omega
      have d2 : decide ((500 : Int) < (len1 : Int)) = true := by simp; omega
      go_wp2_with fail
      go_ret
      exact ⟨rfl, Below.refl _ _⟩
  · have hl1 : len0 ≤ 50 := by omega
    have hl2 : len1 ≤ 500 := by omega
    have d1 : decide ((50 : Int) < (len0 : Int)) = false := by simp; omega
    have d2 : decide ((500 : Int) < (len1 : Int)) = false := by simp; omega
    clear hbig hm1 hm2
    go_wp2_with fail
    refine (all_any _ _ _ g _ _ HX.out.2 HX.out.1 (by omega)).mono ?_
    rintro e w1 ⟨rfl, hb1⟩
    have hf := allA_full g HX.out.1 len0 (by omega)
    have hva := all_valid g HX.out.1 len0 (by omega)
    have hz := allA_zero g HX.out.1 len0 (by omega)
    generalize allA g len0 = a at hf hva hz ⊢
    obtain ⟨x, hx⟩ : ∃ x, x = w1.heap.size := ⟨_, rfl⟩
    have o1 := ((Own.start w).call hb1).alloc hx 28 #[.int .i64 a.n, .int .i64 (hiOf a.s), .int .u64 (loOf a.s), .int .i64 a.lo, .int .i64 a.hi, .int .i64 a.f.t, .int .i64 a.f.v, .int .i64 a.f.s, .int .i64 a.l.t, .int .i64 a.l.v, .int .i64 a.l.s]
    have H1 := Lib.hid (And.intro hx o1)
    have HA := Lib.hid (And.intro hf (And.intro hva hz))
    clear hx o1 hb1 hf hva hz d1 d2
    go_upto_region 4 with (fail)
    rw [← H1.out.1]
    refine wp_gen (Own w [(x, 28, #[.int .i64 a.n, .int .i64 (hiOf a.s), .int .u64 (loOf a.s), .int .i64 a.lo, .int .i64 a.hi, .int .i64 a.f.t, .int .i64 a.f.v, .int .i64 a.f.s, .int .i64 a.l.t, .int .i64 a.l.v, .int .i64 a.l.s])]) H1.out.2 ?_
    intro w2 hS
    clear H1
    have z0_0 := hS.cell 0 0 rfl rfl; have z0_1 := hS.cell 0 1 rfl rfl; have z0_2 := hS.cell 0 2 rfl rfl; have z0_3 := hS.cell 0 3 rfl rfl; have z0_4 := hS.cell 0 4 rfl rfl; have z0_5 := hS.cell 0 5 rfl rfl; have z0_6 := hS.cell 0 6 rfl rfl; have z0_7 := hS.cell 0 7 rfl rfl; have z0_8 := hS.cell 0 8 rfl rfl; have z0_9 := hS.cell 0 9 rfl rfl; have z0_10 := hS.cell 0 10 rfl rfl
    have HS := Lib.hid hS
    clear hS
    go_wp2_with fail
    refine (aggPut_any _ none 0 0 [] a HA.out.1 rfl (Sl.nil _ _ _ _) (by omega) (by omega)).mono ?_
    rintro e w6 ⟨v, rfl, ho, hb⟩
    have hlb := aput_len HA.out.1
    have hgm := aget_aput HA.out.1 HA.out.2.1 HA.out.2.2 ms
    have hgc := aget_cut HA.out.1
    have hpb := getD_all_lt (aput_byte a)
    obtain ⟨P, hP⟩ : ∃ P, P = aput a := ⟨_, rfl⟩
    rw [← hP] at hlb hgm hgc hpb
    obtain ⟨n, hn⟩ : ∃ n, n = P.length := ⟨_, rfl⟩
    rw [← hn] at hlb hgm hgc
    have HP := Lib.hid (And.intro hP (And.intro hn.symm (And.intro hgm (And.intro hgc hpb))))
    clear hP hn hgm hgc hpb
    obtain ⟨hn1, hn30⟩ := hlb
    rw [List.nil_append, ← HP.out.1, HP.out.2.1] at ho
    obtain ⟨A1, c1, hv1, hc1, hA1⟩ := own_form ho
    subst hv1
    obtain ⟨gb, rfl, -, -⟩ := hA1 (by omega)
    have hS := HS.out.call hb
    have hc1m := (own_cap ho).2
    have HB := Lib.hid (And.intro (ow_sl ho) hS)
    clear ho hb hS HS z0_0 z0_1 z0_2 z0_3 z0_4 z0_5 z0_6 z0_7 z0_8 z0_9 z0_10
    go_wp2_with (at_builtin; refine wpList_append_sl (f := byteC P) (D := fun k => k < w6.heap.size) (base := w6.heap.size) (n := 0) (xs := []) byteElem rfl (.tmp 27) (.tmp 28) rfl rfl rfl ?hown ?hsl ?h1 ?h63 ?hby ?hbase ?_)
    case hown => exact lat_lit0 w6 w6.heap.size 5 (Nat.le_refl _)
    case hsl => exact HB.out.1.keep (w' := w6.alloc (.cells #[] 5)) (fun q _ hq => Below.heap_alloc w6 _ q hq)
    case h1 => intro j _; rfl
    case h63 => unfold maxLen; omega
    case hby => omega
    case hbase => simp
    intro v5 w7 ho5 hg5 hx5
    clear hx5
    have k45 : Below w6.heap.size w6 w7 := lat_grown ((Below.refl _ w6).alloc (Nat.le_refl _) _) (lat_lit0 w6 w6.heap.size 5 (Nat.le_refl _)) hg5
    have ho5' : w7.ownsRow w6.heap.size 5 1 v5 n (P.map byteV) := by
      have := ho5
      try simp only [List.nil_append, Nat.zero_add] at this
      rw [← range_bytes HP.out.2.1] at this
      exact this
    have H5 := Lib.hid (And.intro ho5' k45)
    clear ho5 hg5 k45 ho5'
    go_wp2_with (at_builtin; refine wpList_append_sl (f := byteC ms) (D := fun x => x < w.heap.size) (base := w6.heap.size) (n := n) (xs := P.map byteV) byteElem rfl (.tmp 29) (.tmp 30) rfl rfl rfl ?hown ?hsl ?h1 ?h63 ?hby ?hbase ?_)
    case hown => exact H5.out.1
    case hsl => exact HM.out.2.2.1.keep (w' := w7) (fun q _ hq => (below_join HB.out.2.bel H5.out.2).block q hq)
    case h1 => intro j _; rfl
    case h63 => unfold maxLen; omega
    case hby => omega
    case hbase => exact H5.out.2.size
    intro v6 w8 ho6 hg6 hx6
    clear hx6
    have k46 : Below w6.heap.size w6 w8 := lat_grown H5.out.2 H5.out.1 hg6
    rw [← range_bytes HM.out.1, ← List.map_append] at ho6
    have hl6 : (P ++ ms).length = n + len1 := by rw [List.length_append, HP.out.2.1, HM.out.1]
    have hb6 : ∀ j, (P ++ ms).getD j 0 < 256 := getD_app_lt HP.out.2.2.2.2 HM.out.2.1
    obtain ⟨A6, c6, hv6, hc6, -⟩ := own_form ho6
    subst hv6
    have hc6m := (own_cap ho6).2
    have k6 := HB.out.2.call k46
    have H6 := Lib.hid (And.intro (ow_sl ho6) (And.intro k6 (And.intro hl6 (And.intro hb6 (And.intro (HM.out.2.2.2.below k6.bel) (sl_later HB.out.1 k46))))))
    clear ho6 hg6 k46 hl6 hb6 k6 H5 HB
    go_wp2_with fail
    refine (aggRead_any _ _ _ _ (P ++ ms) ⟨H6.out.2.2.1, H6.out.2.2.2.1, H6.out.1, hc6, hc6m, by omega, H6.out.2.2.2.2.1⟩).mono ?_
    rintro e w9 ⟨rfl, hb9⟩
    rw [HP.out.2.2.1]
    obtain ⟨z, hz⟩ : ∃ z, z = w9.heap.size := ⟨_, rfl⟩
    have hS := (H6.out.2.1.call hb9).alloc hz 28 #[.int .i64 a.n, .int .i64 (hiOf a.s), .int .u64 (loOf a.s), .int .i64 a.lo, .int .i64 a.hi, .int .i64 a.f.t, .int .i64 a.f.v, .int .i64 a.f.s, .int .i64 a.l.t, .int .i64 a.l.v, .int .i64 a.l.s]
    have hsl := sl_take_list (sl_later (sl_later H6.out.2.2.2.2.2 hb9) ((Below.refl w9.heap.size w9).alloc (Nat.le_refl _) (.cells #[.int .i64 a.n, .int .i64 (hiOf a.s), .int .u64 (loOf a.s), .int .i64 a.lo, .int .i64 a.hi, .int .i64 a.f.t, .int .i64 a.f.v, .int .i64 a.f.s, .int .i64 a.l.t, .int .i64 a.l.v, .int .i64 a.l.s] 28))) (show n - 1 ≤ n by omega)
    have H9 := Lib.hid (And.intro hz (And.intro hS hsl))
    clear hz hS hsl hb9 hc6 hc6m H6
    go_upto_region 6 with (fail)
    rw [← H9.out.1]
    have km : ((n : Int) - 1) = ((n - 1 : Nat) : Int) := by omega
    obtain ⟨p, hp⟩ : ∃ p, p = n - 1 := ⟨_, rfl⟩
    rw [← hp] at km
    have hS9 := H9.out.2
    rw [← hp] at hS9
    refine wp_gen (fun wx => Own w [(x, 28, #[.int .i64 a.n, .int .i64 (hiOf a.s), .int .u64 (loOf a.s), .int .i64 a.lo, .int .i64 a.hi, .int .i64 a.f.t, .int .i64 a.f.v, .int .i64 a.f.s, .int .i64 a.l.t, .int .i64 a.l.v, .int .i64 a.l.s]), (z, 28, #[.int .i64 a.n, .int .i64 (hiOf a.s), .int .u64 (loOf a.s), .int .i64 a.lo, .int .i64 a.hi, .int .i64 a.f.t, .int .i64 a.f.v, .int .i64 a.f.s, .int .i64 a.l.t, .int .i64 a.l.v, .int .i64 a.l.s])] wx ∧ Sl wx (fun k => k < wx.heap.size) (some ⟨gb, 0, none⟩) p (byteC (P.take p))) ⟨hS9.1, hS9.2⟩ ?_
    rintro w10 ⟨hS, hsl⟩
    have z0_0 := hS.cell 0 0 rfl rfl; have z0_1 := hS.cell 0 1 rfl rfl; have z0_2 := hS.cell 0 2 rfl rfl; have z0_3 := hS.cell 0 3 rfl rfl; have z0_4 := hS.cell 0 4 rfl rfl; have z0_5 := hS.cell 0 5 rfl rfl; have z0_6 := hS.cell 0 6 rfl rfl; have z0_7 := hS.cell 0 7 rfl rfl; have z0_8 := hS.cell 0 8 rfl rfl; have z0_9 := hS.cell 0 9 rfl rfl; have z0_10 := hS.cell 0 10 rfl rfl; have z1_0 := hS.cell 1 0 rfl rfl; have z1_1 := hS.cell 1 1 rfl rfl; have z1_2 := hS.cell 1 2 rfl rfl; have z1_3 := hS.cell 1 3 rfl rfl; have z1_4 := hS.cell 1 4 rfl rfl; have z1_5 := hS.cell 1 5 rfl rfl; have z1_6 := hS.cell 1 6 rfl rfl; have z1_7 := hS.cell 1 7 rfl rfl; have z1_8 := hS.cell 1 8 rfl rfl; have z1_9 := hS.cell 1 9 rfl rfl; have z1_10 := hS.cell 1 10 rfl rfl
    have hv10 := HM.out.2.2.2.below hS.bel
    have HT := Lib.hid (And.intro hS (And.intro hsl hv10))
    clear hS hsl hv10 hS9 H9
    have hpn : p < n := by omega
    have hp0 : (0 : Int) ≤ (p : Int) := by omega
    have dn : ((n : Int) == 0) = false := by simp; omega
    have HPP := Lib.hid hp
    clear hp
    go_wp2_with fail
    refine (aggRead_any _ _ p c1 (P.take p) ⟨by rw [List.length_take, HP.out.2.1]; omega, getD_take_lt HP.out.2.2.2.2 p, HT.out.2.1, by omega, hc1m, by omega, HT.out.2.2⟩).mono ?_
    rintro e w11 ⟨rfl, hb11⟩
    rw [show aget (P.take p) = (zeroA, 0, 10) by rw [HPP.out]; exact HP.out.2.2.2.1]
    have hbf := (HT.out.1.call hb11).bel
    have HF := Lib.hid hbf
    clear hbf hb11 HT z0_0 z0_1 z0_2 z0_3 z0_4 z0_5 z0_6 z0_7 z0_8 z0_9 z0_10 z1_0 z1_1 z1_2 z1_3 z1_4 z1_5 z1_6 z1_7 z1_8 z1_9 z1_10
    go_wp2_with fail
    go_ret
    exact ⟨rfl, HF.out⟩
end Go.Proofs.YthhgnngpaagagaaDoor
