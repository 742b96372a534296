/-
  The walk of the law WaterBack. (Printed by mk.py.)
-/
import Derived.Test.YtgceeihdmhghiaaDoorWtD
import Derived.Deep.DeepCutAuto
namespace Go.Proofs.YtgceeihdmhghiaaDoor
open Go.RowKit
set_option linter.unusedVariables false
set_option linter.unusedSimpArgs false
set_option maxRecDepth 100000 in
set_option maxHeartbeats 8000000 in
theorem waterBack_walk (a0 : Int) (a1 : Option Addr) (len1 cap1 : Nat) (z1 : List Int) (a2 : Option Addr) (len2 cap2 : Nat) (z2 : List Int) (w : World) (w0 : (Lit.int .i64 a0).wf = true) (w1 : IsRow .i64 w a1 len1 cap1 z1) (w2 : IsRow .u8 w a2 len2 cap2 z2) (hv : HErr w) :
    Calls Tryd.prog 6 #[.int .i64 a0, .slice a1 len1 cap1, .slice a2 len2 cap2] w fun e w' => e = .returned (.bool true) ∧ Below w.heap.size w w' := by
  obtain ⟨xs, hxl, hxb, hxs⟩ := w1.ints len1 (Nat.le_refl _)
  obtain ⟨ms, hbl, hbb, hbs⟩ := w2.bytes len2 (Nat.le_refl _)
  have e16 := and_mask_i64 a0 16 (by omega)
  rw [show ((2 ^ 16 - 1 : Nat) : Int) = 65535 by rfl] at e16
  obtain ⟨gk, hgk⟩ : ∃ c, c = (a0 % (2 ^ 16 : Nat)).toNat := ⟨_, rfl⟩
  rw [← hgk] at e16
  have hg16 : gk ≤ 65535 := by omega
  have l1 := w1.le
  have l2 := w2.le
  have hmax : len1 ≤ 9223372036854775807 ∧ len2 ≤ 9223372036854775807 := by
    constructor
    · rcases w1 with ⟨_, h, _, _⟩ | ⟨x, _, h, h', _⟩
      · omega
      · unfold maxLen at h'; omega
    · rcases w2 with ⟨_, h, _, _⟩ | ⟨x, _, h, h', _⟩
      · omega
      · unfold maxLen at h'; omega
  clear w0 w1 w2 hgk l1 l2
  obtain ⟨hm1, hm2⟩ := hmax
  have hr0 : rightB false 0 (gk : Int) = true := rightB_mk (by omega) (by omega) (by omega) (by omega) (.inr rfl)
  have HX := Lib.hid (And.intro hxl (And.intro hxb hxs))
  have HM := Lib.hid (And.intro hbl (And.intro hbb (And.intro hbs hv)))
  have HR0 := Lib.hid hr0
  clear hxl hxb hxs hbl hbb hbs hv hr0
  go_enter Tryd.func6, Tryd.ntmps6
  go_wp2_with fail
  refine (new_ok (gk : Int) _ HR0.out).mono ?_
  rintro e w1 ⟨rfl, hb1⟩
  obtain ⟨x, hx⟩ : ∃ x, x = w1.heap.size := ⟨_, rfl⟩
  have o1 := ((Own.start w).call hb1).alloc hx 37 #[.bool false, .int .i64 0, .int .i64 gk]
  have H1 := Lib.hid (And.intro hx o1)
  clear hx o1 hb1
  by_cases hbig : 100 < len1 ∨ 100 < len2
  · rcases hbig with hbig | hbig
    · have d1 : decide ((100 : Int) < (len1 : Int)) = true := by simp; omega
      go_wp2_with fail
      go_ret
      exact ⟨rfl, H1.out.2.bel⟩
    · by_cases hbig1 : 100 < len1
      · have d1 : decide ((100 : Int) < (len1 : Int)) = true := by simp; omega
        go_wp2_with fail
        go_ret
        exact ⟨rfl, H1.out.2.bel⟩
      · have d1 : decide ((100 : Int) < (len1 : Int)) = false := by simp; omega
        have d2 : decide ((100 : Int) < (len2 : Int)) = true := by simp; omega
        go_wp2_with fail
        go_ret
        exact ⟨rfl, H1.out.2.bel⟩
  · have hl1 : len1 ≤ 100 := by omega
    have hl2 : len2 ≤ 100 := by omega
    have d1 : decide ((100 : Int) < (len1 : Int)) = false := by simp; omega
    have d2 : decide ((100 : Int) < (len2 : Int)) = false := by simp; omega
    clear hbig hm1 hm2
    go_upto_region 4 with (fail)
    rw [← H1.out.1]
    refine wp_gen (Own w [(x, 37, #[.bool false, .int .i64 0, .int .i64 gk])]) H1.out.2 ?_
    intro w2 hS
    clear H1
    have z0_0 := hS.cell 0 0 rfl rfl; have z0_1 := hS.cell 0 1 rfl rfl; have z0_2 := hS.cell 0 2 rfl rfl
    have HS := Lib.hid hS
    clear hS
    go_wp2_with fail
    refine (note_any false 0 (gk : Int) _ a1 len1 cap1 (fun j => xs.getD j 0) (sl_later HX.out.2.2 HS.out.bel) (by omega)).mono ?_
    rintro e w3 ⟨hcase, hb3⟩
    have hnr := note_right (fun j => xs.getD j 0) (gk : Int) (by omega) (by omega) len1
    rw [HR0.out] at hcase
    have hS := HS.out.call hb3
    obtain ⟨y, hy⟩ : ∃ y, y = w3.heap.size := ⟨_, rfl⟩
    clear z0_0 z0_1 z0_2 HS d1 d2
    have hex : ∃ (s : Bool) (l : Int) (er : Int) (s3 : Bool) (l3 g3 : Int), e = .returned (.tuple #[.agg #[.bool s3, .int .i64 l3, .int .i64 g3], .int .i64 er]) ∧ rightB s l (gk : Int) = true ∧
        ((er = 0 ∧ s3 = s ∧ l3 = l ∧ g3 = gk) ∨ (er = 2 ∧ s = false ∧ l = 0)) := by
      by_cases hok : noteOk true (fun j => xs.getD j 0) len1 = true
      · rw [if_pos hok] at hcase
        exact ⟨_, _, 0, _, _, _, hcase, hnr hok, .inl ⟨rfl, rfl, rfl, rfl⟩⟩
      · rw [if_neg hok] at hcase
        exact ⟨false, 0, 2, _, _, _, hcase, HR0.out, .inr ⟨rfl, rfl, rfl⟩⟩
    clear hcase hnr hb3
    obtain ⟨s, l, er, s3, l3, g3, rfl, hr, hk⟩ := hex
    have hS3 := hS.alloc hy 37 #[.bool s3, .int .i64 l3, .int .i64 g3]
    have HY := Lib.hid (And.intro hy (And.intro hS3 hr))
    clear hS hS3 hy hr
    go_upto_region 5 with (fail)
    rw [← HY.out.1]
    refine wp_gen (Own w [(x, 37, #[.bool false, .int .i64 0, .int .i64 gk]), (y, 37, #[.bool s3, .int .i64 l3, .int .i64 g3])]) HY.out.2.1 ?_
    intro w4 hS
    have hr := HY.out.2.2
    clear HY
    have HR := Lib.hid hr
    clear hr
    have hS := hS.front 1 rfl
    have z0_0 := hS.cell 0 0 rfl rfl; have z0_1 := hS.cell 0 1 rfl rfl; have z0_2 := hS.cell 0 2 rfl rfl; have z1_0 := hS.cell 1 0 rfl rfl; have z1_1 := hS.cell 1 1 rfl rfl; have z1_2 := hS.cell 1 2 rfl rfl
    have zf0 := hS.free 0 rfl
    have HT := Lib.hid hS
    clear hS
    rcases hk with ⟨rfl, rfl, rfl, rfl⟩ | ⟨rfl, rfl, rfl⟩
    · have HU := Lib.hid HT.out
      go_upto_region 7 with (fail)
      refine wp_gen (Own w [(y, 37, #[.bool s3, .int .i64 l3, .int .i64 gk]), (x, 37, #[.bool false, .int .i64 0, .int .i64 gk])]) HU.out ?_
      clear z0_0 z0_1 z0_2 z1_0 z1_1 z1_2 zf0 HU HT
      intro w5 hS
      have z0_0 := hS.cell 0 0 rfl rfl; have z0_1 := hS.cell 0 1 rfl rfl; have z0_2 := hS.cell 0 2 rfl rfl; have z1_0 := hS.cell 1 0 rfl rfl; have z1_1 := hS.cell 1 1 rfl rfl; have z1_2 := hS.cell 1 2 rfl rfl
      have HS := Lib.hid hS
      clear hS
      have hlb := mput_len s3 l3 (gk : Int) (by have := rightB_spec HR.out; omega) (by have := rightB_spec HR.out; omega)
      have hgm := mget_mput ms HR.out
      have hgc := mget_cut HR.out
      have hpb := getD_all_lt (mput_byte s3 l3 (gk : Int))
      obtain ⟨P, hP⟩ : ∃ P, P = mput s3 l3 (gk : Int) := ⟨_, rfl⟩
      rw [← hP] at hlb hgm hgc hpb
      obtain ⟨n, hn⟩ : ∃ n, n = P.length := ⟨_, rfl⟩
      rw [← hn] at hlb hgm hgc
      have HP := Lib.hid (And.intro hP (And.intro hn.symm (And.intro hgm (And.intro hgc hpb))))
      clear hP hn hgm hgc hpb
      obtain ⟨hn1, hn30⟩ := hlb
      go_wp2_with fail
      refine (wput_any _ none 0 0 [] s3 l3 (gk : Int) rfl (Sl.nil _ _ _ _) (by omega) (by omega) (by have := rightB_spec HR.out; omega) (by have := rightB_spec HR.out; omega)).mono ?_
      rintro e w6 ⟨v, rfl, ho, hb⟩
      rw [List.nil_append, ← HP.out.1, HP.out.2.1] at ho
      obtain ⟨A1, c1, hv1, hc1, hA1⟩ := own_form ho
      subst hv1
      obtain ⟨gb, rfl, -, -⟩ := hA1 (by omega)
      have hS := HS.out.call hb
      have hc1m := (own_cap ho).2
      have HA := Lib.hid (And.intro (ow_sl ho) hS)
      clear ho hb hS HS z0_0 z0_1 z0_2 z1_0 z1_1 z1_2
      go_wp2_with (at_builtin; refine wpList_append_sl (f := byteC P) (D := fun k => k < w6.heap.size) (base := w6.heap.size) (n := 0) (xs := []) byteElem rfl (.tmp 48) (.tmp 49) rfl rfl rfl ?hown ?hsl ?h1 ?h63 ?hby ?hbase ?_)
      case hown => exact lat_lit0 w6 w6.heap.size 5 (Nat.le_refl _)
      case hsl => exact HA.out.1.keep (w' := w6.alloc (.cells #[] 5)) (fun q _ hq => Below.heap_alloc w6 _ q hq)
      case h1 => intro j _; rfl
      case h63 => unfold maxLen; omega
      case hby => omega
      case hbase => simp
      intro v5 w7 ho5 hg5 hx5
      clear hx5
      have k45 : Below w6.heap.size w6 w7 := lat_grown ((Below.refl _ w6).alloc (Nat.le_refl _) _) (lat_lit0 w6 w6.heap.size 5 (Nat.le_refl _)) hg5
      have ho5' : w7.ownsRow w6.heap.size 5 1 v5 n (P.map byteV) := by
        have := ho5
        try simp only [List.nil_append, Nat.zero_add] at this
        rw [← range_bytes HP.out.2.1] at this
        exact this
      have H5 := Lib.hid (And.intro ho5' k45)
      clear ho5 hg5 k45 ho5'
      go_wp2_with (at_builtin; refine wpList_append_sl (f := byteC ms) (D := fun x => x < w.heap.size) (base := w6.heap.size) (n := n) (xs := P.map byteV) byteElem rfl (.tmp 50) (.tmp 51) rfl rfl rfl ?hown ?hsl ?h1 ?h63 ?hby ?hbase ?_)
      case hown => exact H5.out.1
      case hsl => exact HM.out.2.2.1.keep (w' := w7) (fun q _ hq => (below_join HA.out.2.bel H5.out.2).block q hq)
      case h1 => intro j _; rfl
      case h63 => unfold maxLen; omega
      case hby => omega
      case hbase => exact H5.out.2.size
      intro v6 w8 ho6 hg6 hx6
      clear hx6
      have k46 : Below w6.heap.size w6 w8 := lat_grown H5.out.2 H5.out.1 hg6
      rw [← range_bytes HM.out.1, ← List.map_append] at ho6
      have hl6 : (P ++ ms).length = n + len2 := by rw [List.length_append, HP.out.2.1, HM.out.1]
      have hb6 : ∀ j, (P ++ ms).getD j 0 < 256 := getD_app_lt HP.out.2.2.2.2 HM.out.2.1
      obtain ⟨A6, c6, hv6, hc6, -⟩ := own_form ho6
      subst hv6
      have hc6m := (own_cap ho6).2
      have k6 := HA.out.2.call k46
      have H6 := Lib.hid (And.intro (ow_sl ho6) (And.intro k6 (And.intro hl6 (And.intro hb6 (And.intro (HM.out.2.2.2.below k6.bel) (sl_later HA.out.1 k46))))))
      clear ho6 hg6 k46 hl6 hb6 k6 H5 HA
      go_wp2_with fail
      refine (mread_any _ _ _ _ (P ++ ms) H6.out.2.2.1 H6.out.2.2.2.1 H6.out.1 hc6 hc6m H6.out.2.2.2.2.1).mono ?_
      rintro e w9 ⟨rfl, hb9⟩
      rw [HP.out.2.2.1]
      obtain ⟨z, hz⟩ : ∃ z, z = w9.heap.size := ⟨_, rfl⟩
      have hS := (H6.out.2.1.call hb9).alloc hz 37 #[.bool s3, .int .i64 l3, .int .i64 gk]
      have hsl := sl_take_list (sl_later (sl_later H6.out.2.2.2.2.2 hb9) ((Below.refl w9.heap.size w9).alloc (Nat.le_refl _) (.cells #[.bool s3, .int .i64 l3, .int .i64 gk] 37))) (show n - 1 ≤ n by omega)
      have hv9 := HM.out.2.2.2.below hS.bel
      have H9 := Lib.hid (And.intro hz (And.intro hS (And.intro hsl hv9)))
      clear hz hS hsl hv9 hb9 hc6 hc6m H6
      have km : ((n : Int) - 1) = ((n - 1 : Nat) : Int) := by omega
      obtain ⟨p, hp⟩ : ∃ p, p = n - 1 := ⟨_, rfl⟩
      rw [← hp] at km H9
      have hpn : p < n := by omega
      have hp0 : (0 : Int) ≤ (p : Int) := by omega
      have HPP := Lib.hid hp
      clear hp
      go_wp2_with fail
      rw [← H9.out.1]
      refine (mread_any _ _ p c1 (P.take p) (by rw [List.length_take, HP.out.2.1]; omega) (getD_take_lt HP.out.2.2.2.2 p) H9.out.2.2.1 (by omega) hc1m H9.out.2.2.2).mono ?_
      rintro e w10 ⟨rfl, hb10⟩
      rw [show mget (P.take p) = ⟨false, 0, 0, 0, 10⟩ by rw [HPP.out]; exact HP.out.2.2.2.1]
      obtain ⟨t, ht⟩ : ∃ t, t = w10.heap.size := ⟨_, rfl⟩
      have hS := (H9.out.2.1.call hb10).alloc ht 37 #[.bool false, .int .i64 0, .int .i64 0]
      have H10 := Lib.hid (And.intro ht hS)
      clear ht hS hb10 km H9
      go_upto_region 10 with (fail)
      rw [← H10.out.1]
      refine wp_gen (Own w [(y, 37, #[.bool s3, .int .i64 l3, .int .i64 gk]), (x, 37, #[.bool false, .int .i64 0, .int .i64 gk]), (z, 37, #[.bool s3, .int .i64 l3, .int .i64 gk]), (t, 37, #[.bool false, .int .i64 0, .int .i64 0])]) H10.out.2 ?_
      intro w11 hS
      have z0_0 := hS.cell 0 0 rfl rfl; have z0_1 := hS.cell 0 1 rfl rfl; have z0_2 := hS.cell 0 2 rfl rfl; have z1_0 := hS.cell 1 0 rfl rfl; have z1_1 := hS.cell 1 1 rfl rfl; have z1_2 := hS.cell 1 2 rfl rfl; have z2_0 := hS.cell 2 0 rfl rfl; have z2_1 := hS.cell 2 1 rfl rfl; have z2_2 := hS.cell 2 2 rfl rfl; have z3_0 := hS.cell 3 0 rfl rfl; have z3_1 := hS.cell 3 1 rfl rfl; have z3_2 := hS.cell 3 2 rfl rfl
      have HF := Lib.hid hS
      clear hS H10
      go_wp2_with fail
      go_ret
      exact ⟨rfl, HF.out.bel⟩
    · have HU := Lib.hid ((OwnR.of HT.out rfl).put [.bool false, .int .i64 0, .int .i64 gk] rfl)
      go_upto_region 7 with (fail)
      refine wp_gen (Own w [(y, 37, #[.bool false, .int .i64 0, .int .i64 gk]), (x, 37, #[.bool false, .int .i64 0, .int .i64 gk])]) HU.out ?_
      clear z0_0 z0_1 z0_2 z1_0 z1_1 z1_2 zf0 HU HT
      intro w5 hS
      have z0_0 := hS.cell 0 0 rfl rfl; have z0_1 := hS.cell 0 1 rfl rfl; have z0_2 := hS.cell 0 2 rfl rfl; have z1_0 := hS.cell 1 0 rfl rfl; have z1_1 := hS.cell 1 1 rfl rfl; have z1_2 := hS.cell 1 2 rfl rfl
      have HS := Lib.hid hS
      clear hS
      have hlb := mput_len false 0 (gk : Int) (by have := rightB_spec HR.out; omega) (by have := rightB_spec HR.out; omega)
      have hgm := mget_mput ms HR.out
      have hgc := mget_cut HR.out
      have hpb := getD_all_lt (mput_byte false 0 (gk : Int))
      obtain ⟨P, hP⟩ : ∃ P, P = mput false 0 (gk : Int) := ⟨_, rfl⟩
      rw [← hP] at hlb hgm hgc hpb
      obtain ⟨n, hn⟩ : ∃ n, n = P.length := ⟨_, rfl⟩
      rw [← hn] at hlb hgm hgc
      have HP := Lib.hid (And.intro hP (And.intro hn.symm (And.intro hgm (And.intro hgc hpb))))
      clear hP hn hgm hgc hpb
      obtain ⟨hn1, hn30⟩ := hlb
      go_wp2_with fail
      refine (wput_any _ none 0 0 [] false 0 (gk : Int) rfl (Sl.nil _ _ _ _) (by omega) (by omega) (by have := rightB_spec HR.out; omega) (by have := rightB_spec HR.out; omega)).mono ?_
      rintro e w6 ⟨v, rfl, ho, hb⟩
      rw [List.nil_append, ← HP.out.1, HP.out.2.1] at ho
      obtain ⟨A1, c1, hv1, hc1, hA1⟩ := own_form ho
      subst hv1
      obtain ⟨gb, rfl, -, -⟩ := hA1 (by omega)
      have hS := HS.out.call hb
      have hc1m := (own_cap ho).2
      have HA := Lib.hid (And.intro (ow_sl ho) hS)
      clear ho hb hS HS z0_0 z0_1 z0_2 z1_0 z1_1 z1_2
      go_wp2_with (at_builtin; refine wpList_append_sl (f := byteC P) (D := fun k => k < w6.heap.size) (base := w6.heap.size) (n := 0) (xs := []) byteElem rfl (.tmp 48) (.tmp 49) rfl rfl rfl ?hown ?hsl ?h1 ?h63 ?hby ?hbase ?_)
      case hown => exact lat_lit0 w6 w6.heap.size 5 (Nat.le_refl _)
      case hsl => exact HA.out.1.keep (w' := w6.alloc (.cells #[] 5)) (fun q _ hq => Below.heap_alloc w6 _ q hq)
      case h1 => intro j _; rfl
      case h63 => unfold maxLen; omega
      case hby => omega
      case hbase => simp
      intro v5 w7 ho5 hg5 hx5
      clear hx5
      have k45 : Below w6.heap.size w6 w7 := lat_grown ((Below.refl _ w6).alloc (Nat.le_refl _) _) (lat_lit0 w6 w6.heap.size 5 (Nat.le_refl _)) hg5
      have ho5' : w7.ownsRow w6.heap.size 5 1 v5 n (P.map byteV) := by
        have := ho5
        try simp only [List.nil_append, Nat.zero_add] at this
        rw [← range_bytes HP.out.2.1] at this
        exact this
      have H5 := Lib.hid (And.intro ho5' k45)
      clear ho5 hg5 k45 ho5'
      go_wp2_with (at_builtin; refine wpList_append_sl (f := byteC ms) (D := fun x => x < w.heap.size) (base := w6.heap.size) (n := n) (xs := P.map byteV) byteElem rfl (.tmp 50) (.tmp 51) rfl rfl rfl ?hown ?hsl ?h1 ?h63 ?hby ?hbase ?_)
      case hown => exact H5.out.1
      case hsl => exact HM.out.2.2.1.keep (w' := w7) (fun q _ hq => (below_join HA.out.2.bel H5.out.2).block q hq)
      case h1 => intro j _; rfl
      case h63 => unfold maxLen; omega
      case hby => omega
      case hbase => exact H5.out.2.size
      intro v6 w8 ho6 hg6 hx6
      clear hx6
      have k46 : Below w6.heap.size w6 w8 := lat_grown H5.out.2 H5.out.1 hg6
      rw [← range_bytes HM.out.1, ← List.map_append] at ho6
      have hl6 : (P ++ ms).length = n + len2 := by rw [List.length_append, HP.out.2.1, HM.out.1]
      have hb6 : ∀ j, (P ++ ms).getD j 0 < 256 := getD_app_lt HP.out.2.2.2.2 HM.out.2.1
      obtain ⟨A6, c6, hv6, hc6, -⟩ := own_form ho6
      subst hv6
      have hc6m := (own_cap ho6).2
      have k6 := HA.out.2.call k46
      have H6 := Lib.hid (And.intro (ow_sl ho6) (And.intro k6 (And.intro hl6 (And.intro hb6 (And.intro (HM.out.2.2.2.below k6.bel) (sl_later HA.out.1 k46))))))
      clear ho6 hg6 k46 hl6 hb6 k6 H5 HA
      go_wp2_with fail
      refine (mread_any _ _ _ _ (P ++ ms) H6.out.2.2.1 H6.out.2.2.2.1 H6.out.1 hc6 hc6m H6.out.2.2.2.2.1).mono ?_
      rintro e w9 ⟨rfl, hb9⟩
      rw [HP.out.2.2.1]
      obtain ⟨z, hz⟩ : ∃ z, z = w9.heap.size := ⟨_, rfl⟩
      have hS := (H6.out.2.1.call hb9).alloc hz 37 #[.bool false, .int .i64 0, .int .i64 gk]
      have hsl := sl_take_list (sl_later (sl_later H6.out.2.2.2.2.2 hb9) ((Below.refl w9.heap.size w9).alloc (Nat.le_refl _) (.cells #[.bool false, .int .i64 0, .int .i64 gk] 37))) (show n - 1 ≤ n by omega)
      have hv9 := HM.out.2.2.2.below hS.bel
      have H9 := Lib.hid (And.intro hz (And.intro hS (And.intro hsl hv9)))
      clear hz hS hsl hv9 hb9 hc6 hc6m H6
      have km : ((n : Int) - 1) = ((n - 1 : Nat) : Int) := by omega
      obtain ⟨p, hp⟩ : ∃ p, p = n - 1 := ⟨_, rfl⟩
      rw [← hp] at km H9
      have hpn : p < n := by omega
      have hp0 : (0 : Int) ≤ (p : Int) := by omega
      have HPP := Lib.hid hp
      clear hp
      go_wp2_with fail
      rw [← H9.out.1]
      refine (mread_any _ _ p c1 (P.take p) (by rw [List.length_take, HP.out.2.1]; omega) (getD_take_lt HP.out.2.2.2.2 p) H9.out.2.2.1 (by omega) hc1m H9.out.2.2.2).mono ?_
      rintro e w10 ⟨rfl, hb10⟩
      rw [show mget (P.take p) = ⟨false, 0, 0, 0, 10⟩ by rw [HPP.out]; exact HP.out.2.2.2.1]
      obtain ⟨t, ht⟩ : ∃ t, t = w10.heap.size := ⟨_, rfl⟩
      have hS := (H9.out.2.1.call hb10).alloc ht 37 #[.bool false, .int .i64 0, .int .i64 0]
      have H10 := Lib.hid (And.intro ht hS)
      clear ht hS hb10 km H9
      go_upto_region 10 with (fail)
      rw [← H10.out.1]
      refine wp_gen (Own w [(y, 37, #[.bool false, .int .i64 0, .int .i64 gk]), (x, 37, #[.bool false, .int .i64 0, .int .i64 gk]), (z, 37, #[.bool false, .int .i64 0, .int .i64 gk]), (t, 37, #[.bool false, .int .i64 0, .int .i64 0])]) H10.out.2 ?_
      intro w11 hS
      have z0_0 := hS.cell 0 0 rfl rfl; have z0_1 := hS.cell 0 1 rfl rfl; have z0_2 := hS.cell 0 2 rfl rfl; have z1_0 := hS.cell 1 0 rfl rfl; have z1_1 := hS.cell 1 1 rfl rfl; have z1_2 := hS.cell 1 2 rfl rfl; have z2_0 := hS.cell 2 0 rfl rfl; have z2_1 := hS.cell 2 1 rfl rfl; have z2_2 := hS.cell 2 2 rfl rfl; have z3_0 := hS.cell 3 0 rfl rfl; have z3_1 := hS.cell 3 1 rfl rfl; have z3_2 := hS.cell 3 2 rfl rfl
      have HF := Lib.hid hS
      clear hS H10
      go_wp2_with fail
      go_ret
      exact ⟨rfl, HF.out.bel⟩
end Go.Proofs.YtgceeihdmhghiaaDoor
