/-
  The contracts of tidemillref17's time, Right, Read. (Printed by mk.py.)
-/
import Derived.Test.YtgceeihdmhghiaaDoorWtA
import Derived.Test.YtgceeihdmhghiaaDoorRvA
namespace Go.Proofs.YtgceeihdmhghiaaDoor
open Go.RowKit
set_option linter.unusedVariables false
set_option linter.unusedSimpArgs false
set_option maxHeartbeats 400000 in
theorem rtime_any (t : Int) (w : World) : Calls Tryd.prog 33 #[.int .i64 t] w fun e w' => e = .returned (.bool (isTimeB t)) ∧ w = w' := by
  by_cases h1 : -1152921504606846976 ≤ t
  · by_cases h2 : t ≤ 1152921504606846976
    · have e : isTimeB t = true := by unfold isTimeB; simp [h1, h2]
      rw [e]
      clear e
      go_enter Tryd.func33, Tryd.ntmps33
      go_wp2
      go_ret
      exact ⟨rfl, rfl⟩
    · have e : isTimeB t = false := by unfold isTimeB; simp [h2]
      rw [e]
      clear e
      go_enter Tryd.func33, Tryd.ntmps33
      go_wp2
      go_ret
      exact ⟨rfl, rfl⟩
  · have e : isTimeB t = false := by unfold isTimeB; simp [h1]
    rw [e]
    clear e
    go_enter Tryd.func33, Tryd.ntmps33
    go_wp2
    go_ret
    exact ⟨rfl, rfl⟩
set_option maxRecDepth 100000 in
set_option maxHeartbeats 800000 in
theorem rright_any (s : Bool) (l g : Int) (w : World) : Calls Tryd.prog 26 #[.agg #[.bool s, .int .i64 l, .int .i64 g]] w fun e w' => e = .returned (.bool (rightB s l g)) ∧ Below w.heap.size w w' := by
  have HB := Lib.hid ((Own.own1 w rfl 40 #[.bool s, .int .i64 l, .int .i64 g]).bel)
  by_cases hg : 0 ≤ g
  · by_cases hg2 : g ≤ 1152921504606846976
    · obtain ⟨b2, h2⟩ : ∃ b, b = isTimeB l := ⟨_, rfl⟩
      have hr : rightB s l g = (b2 && (s || decide (l = 0))) := by unfold rightB; rw [← h2]; unfold isTimeB; simp [hg, hg2]; omega
      rw [hr]
      have H2 := Lib.hid h2
      clear hr h2
      go_enter Tryd.func26, Tryd.ntmps26
      go_wp2_with fail
      refine (rtime_any _ _).mono ?_
      rintro e w1 ⟨rfl, rfl⟩
      rw [← H2.out]
      cases b2
      · go_wp2_with fail
        go_ret
        exact ⟨rfl, HB.out⟩
      · cases s
        · by_cases h0 : l = 0
          · subst h0
            go_wp2_with fail
            go_ret
            exact ⟨rfl, HB.out⟩
          · have e : (l == 0) = false := by simp [h0]
            have e2 : decide (l = 0) = false := by simp [h0]
            clear h0
            go_wp2_with fail
            go_ret
            exact ⟨by rw [e2]; rfl, HB.out⟩
        · go_wp2_with fail
          go_ret
          exact ⟨rfl, HB.out⟩
    · have hr : rightB s l g = false := by unfold rightB isTimeB; simp [hg2]
      rw [hr]
      clear hr
      go_enter Tryd.func26, Tryd.ntmps26
      go_wp2_with fail
      go_ret
      exact ⟨rfl, HB.out⟩
  · have hr : rightB s l g = false := by unfold rightB; simp [hg]
    rw [hr]
    clear hr
    go_enter Tryd.func26, Tryd.ntmps26
    go_wp2_with fail
    go_ret
    exact ⟨rfl, HB.out⟩
set_option maxRecDepth 100000 in
set_option maxHeartbeats 8000000 in
theorem rmread_any (w : World) (A : Option Addr) (len c : Nat) (l : List Nat) (hl : l.length = len) (hb : ∀ j, l.getD j 0 < 256) (hsl : Sl w (fun q => q < w.heap.size) A len (byteC l)) (hlc : len ≤ c) (hcm : c ≤ 9223372036854775807) :
    Calls Tryd.prog 14 #[.slice A len c] w (MReadPost l w) := by
  obtain ⟨x, hx⟩ : ∃ x, x = w.heap.size := ⟨_, rfl⟩
  have o0 := Own.own1 w hx 40 #[.bool false, .int .i64 0, .int .i64 0]
  have s0 := sl_later hsl o0.bel
  have HS := Lib.hid (And.intro hl (And.intro hb hsl))
  have HO := Lib.hid (And.intro hx (And.intro o0 s0))
  clear hl hb hsl hx o0 s0
  go_enter Tryd.func14, Tryd.ntmps14
  go_wp2_with fail
  refine (rvread_any _ _ A len c l HS.out.1 HS.out.2.1 HO.out.2.2 (by omega)).mono ?_
  rintro e w1 ⟨rfl, hb1⟩
  have hM := mget_def l
  have hvl := vget_lt l
  rw [HS.out.1] at hvl
  obtain ⟨u, hu⟩ : ∃ u, u = (vget l).1 := ⟨_, rfl⟩
  obtain ⟨n, hn⟩ : ∃ n, n = (vget l).2.1 := ⟨_, rfl⟩
  obtain ⟨k, hk⟩ : ∃ k, k = (vget l).2.2 := ⟨_, rfl⟩
  rw [← hu, ← hn, ← hk] at hM
  rw [← hu, ← hn] at hvl
  rw [← hu, ← hn, ← hk, ← HO.out.1]
  obtain ⟨hu64, hn10, hnl⟩ := hvl
  have hS := HO.out.2.1.call hb1
  clear hu hn hk hb1
  by_cases h0 : k = 0
  · subst h0
    rw [if_neg (by omega)] at hM
    obtain ⟨A1, hA1, hA2⟩ := slice_from (P := Tryd.prog) 22 5 Tryd.underlying22 oneU8 A len c n hnl hlc
    have s1 := hA2 w1 _ l (sl_later HS.out.2.2 hS.bel)
    have hm1 : (l.drop n).length = len - n := by rw [List.length_drop, HS.out.1]
    have hmb := getD_drop_lt HS.out.2.1 n
    have HM1 := Lib.hid (And.intro hM (And.intro s1 (And.intro hm1 (And.intro hmb hS))))
    clear hM s1 hm1 hmb hS hA2
    obtain ⟨lg, hlg⟩ : ∃ lg, lg = IntKind.i64.wrap (u : Int) := ⟨_, rfl⟩
    have klg : IntKind.i64.wrap (u : Int) = lg := hlg.symm
    rw [klg] at HM1
    clear hlg
    go_wp2_with fail
    refine (rvread_any _ _ A1 (len - n) (c - n) (l.drop n) HM1.out.2.2.1 HM1.out.2.2.2.1 HM1.out.2.1 (by omega)).mono ?_
    rintro e w2 ⟨rfl, hb2⟩
    have hM := HM1.out.1
    rw [mget2_def] at hM
    obtain ⟨m, hm⟩ : ∃ m, m = l.drop n := ⟨_, rfl⟩
    rw [← hm] at hM ⊢
    have hvl := vget_lt m
    rw [hm, HM1.out.2.2.1, ← hm] at hvl
    obtain ⟨sn, hsn⟩ : ∃ u, u = (vget m).1 := ⟨_, rfl⟩
    obtain ⟨n2, hn2⟩ : ∃ n, n = (vget m).2.1 := ⟨_, rfl⟩
    obtain ⟨k2, hk2⟩ : ∃ k, k = (vget m).2.2 := ⟨_, rfl⟩
    rw [← hsn, ← hn2, ← hk2] at hM
    rw [← hsn, ← hn2] at hvl
    rw [← hsn, ← hn2, ← hk2]
    obtain ⟨hs64, hn210, hn2l⟩ := hvl
    have hS := HM1.out.2.2.2.2.call hb2
    have hmm : m.drop n2 = l.drop (n + n2) := by rw [hm, List.drop_drop]
    rw [hmm] at hM
    clear hsn hn2 hk2 hb2 hm hmm hA1 HM1
    by_cases h2 : k2 = 0
    · subst h2
      rw [if_neg (by omega)] at hM
      obtain ⟨y, hy⟩ : ∃ y, y = w2.heap.size := ⟨_, rfl⟩
      have hS := hS.alloc hy 40 #[.bool false, .int .i64 0, .int .i64 lg]
      have HY := Lib.hid (And.intro hy (And.intro hS hM))
      clear hS hM hy
      go_upto_region 9 with (fail)
      rw [← HY.out.1]
      have hM := HY.out.2.2
      refine wp_gen (Own w [(x, 40, #[.bool false, .int .i64 0, .int .i64 0]), (y, 40, #[.bool false, .int .i64 0, .int .i64 lg])]) HY.out.2.1 ?_
      intro w3 hS
      clear HY
      by_cases h3 : sn = 1
      · subst h3
        rw [if_neg (by omega), if_pos rfl] at hM
        have d1 : decide ((1 : Int) < (1 : Int)) = false := rfl
        have hS1 := hS.front 1 rfl
        have z0_0 := hS1.cell 0 0 rfl rfl; have z0_1 := hS1.cell 0 1 rfl rfl; have z0_2 := hS1.cell 0 2 rfl rfl; have z1_0 := hS1.cell 1 0 rfl rfl; have z1_1 := hS1.cell 1 1 rfl rfl; have z1_2 := hS1.cell 1 2 rfl rfl
        have zf0 := hS1.free 0 rfl
        have hS2 := hS1.set 0 0 rfl (.bool true)
        obtain ⟨A2, hA1, hA2⟩ := slice_from (P := Tryd.prog) 22 5 Tryd.underlying22 oneU8 A len c (n + n2) (by omega) hlc
        rw [show ((n + n2 : Nat) : Int) = (n : Int) + (n2 : Int) by omega] at hA1
        have HB := Lib.hid (And.intro hS2 (And.intro hM hA2))
        clear hS hS1 hS2 hM hA2
        go_upto_region 13 with (fail)
        refine wp_gen (Own w [(y, 40, #[.bool true, .int .i64 0, .int .i64 lg]), (x, 40, #[.bool false, .int .i64 0, .int .i64 0])]) HB.out.1 ?_
        clear z0_0 z0_1 z0_2 z1_0 z1_1 z1_2 zf0
        intro w4 hS
        have hM := HB.out.2.1
        have s1 := HB.out.2.2 w4 _ l (sl_later HS.out.2.2 hS.bel)
        have hm1 : (l.drop (n + n2)).length = len - (n + n2) := by rw [List.length_drop, HS.out.1]
        have hmb := getD_drop_lt HS.out.2.1 (n + n2)
        have HM2 := Lib.hid (And.intro hM (And.intro s1 (And.intro hm1 (And.intro hmb hS))))
        clear hM s1 hm1 hmb hS HB
        go_wp2_with fail
        refine (rvreadInt_any _ _ A2 (len - (n + n2)) (c - (n + n2)) (l.drop (n + n2)) HM2.out.2.2.1 HM2.out.2.2.2.1 HM2.out.2.1 (by omega)).mono ?_
        rintro e w5 ⟨rfl, hb5⟩
        have hM := HM2.out.1
        rw [mget3_def] at hM
        obtain ⟨q, hq⟩ : ∃ q, q = l.drop (n + n2) := ⟨_, rfl⟩
        rw [← hq] at hM ⊢
        have hvl := vget_lt q
        obtain ⟨t, ht⟩ : ∃ t, t = zag (vget q).1 := ⟨_, rfl⟩
        obtain ⟨n3, hn3⟩ : ∃ n, n = (vget q).2.1 := ⟨_, rfl⟩
        obtain ⟨k3, hk3⟩ : ∃ k, k = (vget q).2.2 := ⟨_, rfl⟩
        rw [← ht, ← hn3, ← hk3] at hM
        rw [← hn3] at hvl
        rw [← ht, ← hn3, ← hk3]
        have hn310 := hvl.2.1
        have hS := HM2.out.2.2.2.2.call hb5
        clear hvl ht hn3 hk3 hb5 hq hA1 HM2
        have hS0 := (hS.set 0 1 rfl (.int .i64 t)).front 1 rfl
        have z0_0 := hS.cell 0 0 rfl rfl; have z0_1 := hS.cell 0 1 rfl rfl; have z0_2 := hS.cell 0 2 rfl rfl; have z1_0 := hS.cell 1 0 rfl rfl; have z1_1 := hS.cell 1 1 rfl rfl; have z1_2 := hS.cell 1 2 rfl rfl
        have zf0 := hS.free 0 rfl
        have HB := Lib.hid (And.intro hS0 hM)
        clear hS hS0 hM
        go_upto_region 14 with (fail)
        refine wp_gen (Own w [(x, 40, #[.bool false, .int .i64 0, .int .i64 0]), (y, 40, #[.bool true, .int .i64 t, .int .i64 lg])]) HB.out.1 ?_
        clear z0_0 z0_1 z0_2 z1_0 z1_1 z1_2 zf0
        intro w6 hS
        have hM := HB.out.2
        clear HB
        by_cases h4 : k3 = 0
        · subst h4
          rw [if_neg (by omega)] at hM
          by_cases hr : rightB true t lg = true
          · rw [if_pos hr] at hM
            have HM := Lib.hid (And.intro hM hr)
            clear hM hr
            have z0_0 := hS.cell 0 0 rfl rfl; have z0_1 := hS.cell 0 1 rfl rfl; have z0_2 := hS.cell 0 2 rfl rfl; have z1_0 := hS.cell 1 0 rfl rfl; have z1_1 := hS.cell 1 1 rfl rfl; have z1_2 := hS.cell 1 2 rfl rfl
            have HT := Lib.hid hS
            clear hS
            go_wp2_with fail
            refine (rright_any true t lg _).mono ?_
            rintro e w6 ⟨rfl, hb6⟩
            rw [HM.out.2]
            have hS := HT.out.call hb6
            clear z0_0 z0_1 z0_2 z1_0 z1_1 z1_2 hb6 HT
            have z0_0 := hS.cell 0 0 rfl rfl; have z0_1 := hS.cell 0 1 rfl rfl; have z0_2 := hS.cell 0 2 rfl rfl; have z1_0 := hS.cell 1 0 rfl rfl; have z1_1 := hS.cell 1 1 rfl rfl; have z1_2 := hS.cell 1 2 rfl rfl
            have zf0 := hS.free 0 rfl
            have HT := Lib.hid hS
            clear hS
            have HP := Lib.hid (((OwnR.of HT.out rfl).put [.bool true, .int .i64 t, .int .i64 lg] rfl).bel)
            go_wp2_with fail
            exact bodyPost_ret (v := .tuple #[.agg #[.bool true, .int .i64 t, .int .i64 lg], .int .i64 ((n + n2 + n3 : Nat) : Int), .int .i64 0]) (by simp [results, Tryd.results14, go_sem, z0_0, z0_1, z0_2]) rfl ⟨mark_ret (e := 0) HM.out.1, HP.out⟩
          · rw [if_neg hr] at hM
            have HM := Lib.hid hM
            have HR := Lib.hid (show rightB true t lg = false by simpa using hr)
            clear hM hr
            have z0_0 := hS.cell 0 0 rfl rfl; have z0_1 := hS.cell 0 1 rfl rfl; have z0_2 := hS.cell 0 2 rfl rfl; have z1_0 := hS.cell 1 0 rfl rfl; have z1_1 := hS.cell 1 1 rfl rfl; have z1_2 := hS.cell 1 2 rfl rfl
            have HT := Lib.hid hS
            clear hS
            go_wp2_with fail
            refine (rright_any true t lg _).mono ?_
            rintro e w6 ⟨rfl, hb6⟩
            rw [HR.out]
            have hS := HT.out.call hb6
            clear z0_0 z0_1 z0_2 z1_0 z1_1 z1_2 hb6 HT
            have z0_0 := hS.cell 0 0 rfl rfl; have z0_1 := hS.cell 0 1 rfl rfl; have z0_2 := hS.cell 0 2 rfl rfl; have z1_0 := hS.cell 1 0 rfl rfl; have z1_1 := hS.cell 1 1 rfl rfl; have z1_2 := hS.cell 1 2 rfl rfl
            have zf0 := hS.free 0 rfl
            have HT := Lib.hid hS
            clear hS
            have HP := Lib.hid (((OwnR.of HT.out rfl).put [.bool false, .int .i64 0, .int .i64 0] rfl).bel)
            go_wp2_with fail
            exact bodyPost_ret (v := .tuple #[.agg #[.bool false, .int .i64 0, .int .i64 0], .int .i64 0, .int .i64 11]) (by simp [results, Tryd.results14, go_sem, z0_0, z0_1, z0_2]) rfl ⟨mark_ret (e := 11) (n := 0) HM.out, HP.out⟩
        · rw [if_pos h4] at hM
          have HM := Lib.hid hM
          have d2 : ((k3 : Int) != 0) = true := by simp; omega
          clear hM h4
          have z0_0 := hS.cell 0 0 rfl rfl; have z0_1 := hS.cell 0 1 rfl rfl; have z0_2 := hS.cell 0 2 rfl rfl; have z1_0 := hS.cell 1 0 rfl rfl; have z1_1 := hS.cell 1 1 rfl rfl; have z1_2 := hS.cell 1 2 rfl rfl
          have zf0 := hS.free 0 rfl
          have HT := Lib.hid hS
          clear hS
          have HP := Lib.hid (((OwnR.of HT.out rfl).put [.bool false, .int .i64 0, .int .i64 0] rfl).bel)
          go_wp2_with fail
          exact bodyPost_ret (v := .tuple #[.agg #[.bool false, .int .i64 0, .int .i64 0], .int .i64 0, .int .i64 k3]) (by simp [results, Tryd.results14, go_sem, z0_0, z0_1, z0_2]) rfl ⟨mark_ret (e := k3) (n := 0) HM.out, HP.out⟩
      · have d1 : ((sn : Int) == 1) = false := by simp; omega
        by_cases h4 : 1 < sn
        · rw [if_pos h4] at hM
          have HM := Lib.hid hM
          have d2 : decide ((1 : Int) < (sn : Int)) = true := by simp; omega
          clear hM h3 h4
          have z0_0 := hS.cell 0 0 rfl rfl; have z0_1 := hS.cell 0 1 rfl rfl; have z0_2 := hS.cell 0 2 rfl rfl; have z1_0 := hS.cell 1 0 rfl rfl; have z1_1 := hS.cell 1 1 rfl rfl; have z1_2 := hS.cell 1 2 rfl rfl
          have zf0 := hS.free 0 rfl
          have HT := Lib.hid hS
          clear hS
          have HP := Lib.hid (((OwnR.of HT.out rfl).put [.bool false, .int .i64 0, .int .i64 0] rfl).bel)
          go_wp2_with fail
          exact bodyPost_ret (v := .tuple #[.agg #[.bool false, .int .i64 0, .int .i64 0], .int .i64 0, .int .i64 11]) (by simp [results, Tryd.results14, go_sem, z0_0, z0_1, z0_2]) rfl ⟨mark_ret (e := 11) (n := 0) HM.out, HP.out⟩
        · obtain rfl : sn = 0 := by omega
          rw [if_neg (by omega), if_neg (by omega)] at hM
          clear d1 h3 h4
          by_cases hr : rightB false 0 lg = true
          · rw [if_pos hr] at hM
            have HM := Lib.hid (And.intro hM hr)
            clear hM hr
            have z0_0 := hS.cell 0 0 rfl rfl; have z0_1 := hS.cell 0 1 rfl rfl; have z0_2 := hS.cell 0 2 rfl rfl; have z1_0 := hS.cell 1 0 rfl rfl; have z1_1 := hS.cell 1 1 rfl rfl; have z1_2 := hS.cell 1 2 rfl rfl
            have HT := Lib.hid hS
            clear hS
            go_wp2_with fail
            refine (rright_any false 0 lg _).mono ?_
            rintro e w6 ⟨rfl, hb6⟩
            rw [HM.out.2]
            have hS := HT.out.call hb6
            clear z0_0 z0_1 z0_2 z1_0 z1_1 z1_2 hb6 HT
            have z0_0 := hS.cell 0 0 rfl rfl; have z0_1 := hS.cell 0 1 rfl rfl; have z0_2 := hS.cell 0 2 rfl rfl; have z1_0 := hS.cell 1 0 rfl rfl; have z1_1 := hS.cell 1 1 rfl rfl; have z1_2 := hS.cell 1 2 rfl rfl
            have zf0 := hS.free 0 rfl
            have HT := Lib.hid hS
            clear hS
            have HP := Lib.hid (((OwnR.of HT.out rfl).put [.bool false, .int .i64 0, .int .i64 lg] rfl).bel)
            go_wp2_with fail
            exact bodyPost_ret (v := .tuple #[.agg #[.bool false, .int .i64 0, .int .i64 lg], .int .i64 ((n + n2 : Nat) : Int), .int .i64 0]) (by simp [results, Tryd.results14, go_sem, z0_0, z0_1, z0_2]) rfl ⟨mark_ret (e := 0) HM.out.1, HP.out⟩
          · rw [if_neg hr] at hM
            have HM := Lib.hid hM
            have HR := Lib.hid (show rightB false 0 lg = false by simpa using hr)
            clear hM hr
            have z0_0 := hS.cell 0 0 rfl rfl; have z0_1 := hS.cell 0 1 rfl rfl; have z0_2 := hS.cell 0 2 rfl rfl; have z1_0 := hS.cell 1 0 rfl rfl; have z1_1 := hS.cell 1 1 rfl rfl; have z1_2 := hS.cell 1 2 rfl rfl
            have HT := Lib.hid hS
            clear hS
            go_wp2_with fail
            refine (rright_any false 0 lg _).mono ?_
            rintro e w6 ⟨rfl, hb6⟩
            rw [HR.out]
            have hS := HT.out.call hb6
            clear z0_0 z0_1 z0_2 z1_0 z1_1 z1_2 hb6 HT
            have z0_0 := hS.cell 0 0 rfl rfl; have z0_1 := hS.cell 0 1 rfl rfl; have z0_2 := hS.cell 0 2 rfl rfl; have z1_0 := hS.cell 1 0 rfl rfl; have z1_1 := hS.cell 1 1 rfl rfl; have z1_2 := hS.cell 1 2 rfl rfl
            have zf0 := hS.free 0 rfl
            have HT := Lib.hid hS
            clear hS
            have HP := Lib.hid (((OwnR.of HT.out rfl).put [.bool false, .int .i64 0, .int .i64 0] rfl).bel)
            go_wp2_with fail
            exact bodyPost_ret (v := .tuple #[.agg #[.bool false, .int .i64 0, .int .i64 0], .int .i64 0, .int .i64 11]) (by simp [results, Tryd.results14, go_sem, z0_0, z0_1, z0_2]) rfl ⟨mark_ret (e := 11) (n := 0) HM.out, HP.out⟩
    · rw [if_pos h2] at hM
      have HM := Lib.hid hM
      have d2 : ((k2 : Int) != 0) = true := by simp; omega
      clear hM h2
      have z0_0 := hS.cell 0 0 rfl rfl; have z0_1 := hS.cell 0 1 rfl rfl; have z0_2 := hS.cell 0 2 rfl rfl
      have zf0 := hS.free 0 rfl
      have HT := Lib.hid hS
      clear hS
      have HP := Lib.hid (((OwnR.of HT.out rfl).put [.bool false, .int .i64 0, .int .i64 0] rfl).bel)
      go_wp2_with fail
      exact bodyPost_ret (v := .tuple #[.agg #[.bool false, .int .i64 0, .int .i64 0], .int .i64 0, .int .i64 k2]) (by simp [results, Tryd.results14, go_sem, z0_0, z0_1, z0_2]) rfl ⟨mark_ret (e := k2) (n := 0) HM.out, HP.out⟩
  · rw [if_pos h0] at hM
    have HM := Lib.hid hM
    have d0 : ((k : Int) != 0) = true := by simp; omega
    clear hM h0
    have z0_0 := hS.cell 0 0 rfl rfl; have z0_1 := hS.cell 0 1 rfl rfl; have z0_2 := hS.cell 0 2 rfl rfl
    have zf0 := hS.free 0 rfl
    have HT := Lib.hid hS
    clear hS
    have HP := Lib.hid (((OwnR.of HT.out rfl).put [.bool false, .int .i64 0, .int .i64 0] rfl).bel)
    go_wp2_with fail
    exact bodyPost_ret (v := .tuple #[.agg #[.bool false, .int .i64 0, .int .i64 0], .int .i64 0, .int .i64 k]) (by simp [results, Tryd.results14, go_sem, z0_0, z0_1, z0_2]) rfl ⟨mark_ret (e := k) (n := 0) HM.out, HP.out⟩
end Go.Proofs.YtgceeihdmhghiaaDoor
