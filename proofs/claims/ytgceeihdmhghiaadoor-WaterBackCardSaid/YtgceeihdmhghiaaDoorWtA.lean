/-
  What bytes tell of a mark, plainly; the contracts of water.Read and (with it) of varint's reading at a place. (Printed by mk.py.)
-/
import Derived.Test.YtgceeihdmhghiaaDoorErE
import Derived.Test.YtgceeihdmhghiaaDoorWaterPl
namespace Go.Proofs.YtgceeihdmhghiaaDoor
open Go.RowKit
set_option linter.unusedVariables false
set_option linter.unusedSimpArgs false
/-- A mark of bytes: whether a time was seen, the last, the lag, how many bytes, what is wrong. -/
structure MRes where
  s : Bool
  l : Int
  g : Int
  n : Nat
  e : Nat
def mbad (e : Nat) : MRes := ⟨false, 0, 0, 0, e⟩
def mget3 (lag : Int) (n : Nat) (k : List Nat) : MRes :=
  if (vget k).2.2 ≠ 0 then mbad (vget k).2.2
  else if rightB true (zag (vget k).1) lag = true then ⟨true, zag (vget k).1, lag, n + (vget k).2.1, 0⟩ else mbad 11
def mget2 (lag : Int) (n : Nat) (m : List Nat) : MRes :=
  if (vget m).2.2 ≠ 0 then mbad (vget m).2.2
  else if 1 < (vget m).1 then mbad 11
  else if (vget m).1 = 1 then mget3 lag (n + (vget m).2.1) (m.drop (vget m).2.1)
  else if rightB false 0 lag = true then ⟨false, 0, lag, n + (vget m).2.1, 0⟩ else mbad 11
def mget (l : List Nat) : MRes :=
  if (vget l).2.2 ≠ 0 then mbad (vget l).2.2 else mget2 (IntKind.i64.wrap (vget l).1) (vget l).2.1 (l.drop (vget l).2.1)
theorem mget_def (l : List Nat) : mget l = if (vget l).2.2 ≠ 0 then mbad (vget l).2.2 else mget2 (IntKind.i64.wrap (vget l).1) (vget l).2.1 (l.drop (vget l).2.1) := rfl
theorem mget2_def (lag : Int) (n : Nat) (m : List Nat) : mget2 lag n m = if (vget m).2.2 ≠ 0 then mbad (vget m).2.2
  else if 1 < (vget m).1 then mbad 11
  else if (vget m).1 = 1 then mget3 lag (n + (vget m).2.1) (m.drop (vget m).2.1)
  else if rightB false 0 lag = true then ⟨false, 0, lag, n + (vget m).2.1, 0⟩ else mbad 11 := rfl
theorem mget3_def (lag : Int) (n : Nat) (k : List Nat) : mget3 lag n k = if (vget k).2.2 ≠ 0 then mbad (vget k).2.2
  else if rightB true (zag (vget k).1) lag = true then ⟨true, zag (vget k).1, lag, n + (vget k).2.1, 0⟩ else mbad 11 := rfl
def MReadPost (l : List Nat) (w : World) (e : Ending) (w' : World) : Prop :=
  e = .returned (.tuple #[.agg #[.bool (mget l).s, .int .i64 (mget l).l, .int .i64 (mget l).g], .int .i64 ((mget l).n : Nat), .int .i64 ((mget l).e : Nat)]) ∧ Below w.heap.size w w'
theorem mark_ret {s : Bool} {l g : Int} {n e : Nat} {r : MRes} (h : r = ⟨s, l, g, n, e⟩) :
    Ending.returned (.tuple #[.agg #[.bool s, .int .i64 l, .int .i64 g], .int .i64 (n : Nat), .int .i64 (e : Nat)]) = .returned (.tuple #[.agg #[.bool r.s, .int .i64 r.l, .int .i64 r.g], .int .i64 (r.n : Nat), .int .i64 (r.e : Nat)]) := by subst h; rfl
theorem oneU8 (w : World) : (sizeOf 5).run Tryd.prog w = .ok 1 w := by kernel_rfl
set_option maxRecDepth 100000 in
set_option maxHeartbeats 8000000 in
theorem mread_any (w : World) (A : Option Addr) (len c : Nat) (l : List Nat) (hl : l.length = len) (hb : ∀ j, l.getD j 0 < 256) (hsl : Sl w (fun q => q < w.heap.size) A len (byteC l)) (hlc : len ≤ c) (hcm : c ≤ 9223372036854775807) (hv : HErr w) :
    Calls Tryd.prog 13 #[.slice A len c] w (MReadPost l w) := by
  obtain ⟨x, hx⟩ : ∃ x, x = w.heap.size := ⟨_, rfl⟩
  have o0 := Own.own1 w hx 37 #[.bool false, .int .i64 0, .int .i64 0]
  have s0 := sl_later hsl o0.bel
  have hv0 := hv.below o0.bel
  have HS := Lib.hid (And.intro hl (And.intro hb (And.intro hsl hv)))
  have HO := Lib.hid (And.intro hx (And.intro o0 (And.intro s0 hv0)))
  clear hl hb hsl hv hx o0 s0 hv0
  go_enter Tryd.func13, Tryd.ntmps13
  go_wp2_with fail
  refine (vread_any _ _ A len c l HS.out.1 HS.out.2.1 HO.out.2.2.1 (by omega) HO.out.2.2.2).mono ?_
  rintro e w1 ⟨rfl, hb1⟩
  have hM := mget_def l
  have hvl := vget_lt l
  rw [HS.out.1] at hvl
  obtain ⟨u, hu⟩ : ∃ u, u = (vget l).1 := ⟨_, rfl⟩
  obtain ⟨n, hn⟩ : ∃ n, n = (vget l).2.1 := ⟨_, rfl⟩
  obtain ⟨k, hk⟩ : ∃ k, k = (vget l).2.2 := ⟨_, rfl⟩
  rw [← hu, ← hn, ← hk] at hM
  rw [← hu, ← hn] at hvl
  rw [← hu, ← hn, ← hk, ← HO.out.1]
  obtain ⟨hu64, hn10, hnl⟩ := hvl
  have hS := HO.out.2.1.call hb1
  clear hu hn hk hb1
  by_cases h0 : k = 0
  · subst h0
    rw [if_neg (by omega)] at hM
    obtain ⟨A1, hA1, hA2⟩ := slice_from (P := Tryd.prog) 22 5 Tryd.underlying22 oneU8 A len c n hnl hlc
    have s1 := hA2 w1 _ l (sl_later HS.out.2.2.1 hS.bel)
    have hv1 := HS.out.2.2.2.below hS.bel
    have hm1 : (l.drop n).length = len - n := by rw [List.length_drop, HS.out.1]
    have hmb := getD_drop_lt HS.out.2.1 n
    have HM1 := Lib.hid (And.intro hM (And.intro s1 (And.intro hv1 (And.intro hm1 (And.intro hmb hS)))))
    clear hM s1 hv1 hm1 hmb hS hA2
    obtain ⟨lg, hlg⟩ : ∃ lg, lg = IntKind.i64.wrap (u : Int) := ⟨_, rfl⟩
    have klg : IntKind.i64.wrap (u : Int) = lg := hlg.symm
    rw [klg] at HM1
    clear hlg
    go_wp2_with fail
    refine (vread_any _ _ A1 (len - n) (c - n) (l.drop n) HM1.out.2.2.2.1 HM1.out.2.2.2.2.1 HM1.out.2.1 (by omega) HM1.out.2.2.1).mono ?_
    rintro e w2 ⟨rfl, hb2⟩
    have hM := HM1.out.1
    rw [mget2_def] at hM
    obtain ⟨m, hm⟩ : ∃ m, m = l.drop n := ⟨_, rfl⟩
    rw [← hm] at hM ⊢
    have hvl := vget_lt m
    rw [hm, HM1.out.2.2.2.1, ← hm] at hvl
    have hve := vget_e m
    obtain ⟨sn, hsn⟩ : ∃ u, u = (vget m).1 := ⟨_, rfl⟩
    obtain ⟨n2, hn2⟩ : ∃ n, n = (vget m).2.1 := ⟨_, rfl⟩
    obtain ⟨k2, hk2⟩ : ∃ k, k = (vget m).2.2 := ⟨_, rfl⟩
    rw [← hsn, ← hn2, ← hk2] at hM hve
    rw [← hsn, ← hn2] at hvl
    rw [← hsn, ← hn2, ← hk2]
    obtain ⟨hs64, hn210, hn2l⟩ := hvl
    have hS := HM1.out.2.2.2.2.2.call hb2
    have hmm : m.drop n2 = l.drop (n + n2) := by rw [hm, List.drop_drop]
    rw [hmm] at hM
    clear hsn hn2 hk2 hb2 hm hmm hA1 HM1
    by_cases h2 : k2 = 0
    · subst h2
      clear hve
      rw [if_neg (by omega)] at hM
      by_cases h3 : sn = 1
      · subst h3
        rw [if_neg (by omega), if_pos rfl] at hM
        have d1 : decide ((1 : Int) < (1 : Int)) = false := rfl
        have z0_0 := hS.cell 0 0 rfl rfl; have z0_1 := hS.cell 0 1 rfl rfl; have z0_2 := hS.cell 0 2 rfl rfl
        have zf0 := hS.free 0 rfl
        have HT := Lib.hid hS
        clear hS
        have hSa := HT.out
        have hSb := (OwnR.of HT.out rfl).put [.bool true, .int .i64 0, .int .i64 lg] rfl
        have HB := Lib.hid (And.intro hSb hM)
        clear hSa hSb hM
        go_upto_region 7 with (fail)
        refine wp_gen (Own w [(x, 37, #[.bool true, .int .i64 0, .int .i64 lg])]) HB.out.1 ?_
        clear z0_0 z0_1 z0_2 zf0 HT
        intro w3 hS
        have hM := HB.out.2
        obtain ⟨A2, hA1, hA2⟩ := slice_from (P := Tryd.prog) 22 5 Tryd.underlying22 oneU8 A len c (n + n2) (by omega) hlc
        have s1 := hA2 w3 _ l (sl_later HS.out.2.2.1 hS.bel)
        have hv1 := HS.out.2.2.2.below hS.bel
        have hm1 : (l.drop (n + n2)).length = len - (n + n2) := by rw [List.length_drop, HS.out.1]
        have hmb := getD_drop_lt HS.out.2.1 (n + n2)
        rw [show ((n + n2 : Nat) : Int) = (n : Int) + (n2 : Int) by omega] at hA1
        have z0_0 := hS.cell 0 0 rfl rfl; have z0_1 := hS.cell 0 1 rfl rfl; have z0_2 := hS.cell 0 2 rfl rfl
        have HM2 := Lib.hid (And.intro hM (And.intro s1 (And.intro hv1 (And.intro hm1 (And.intro hmb hS)))))
        clear hM s1 hv1 hm1 hmb hS hA2 HB
        go_wp2_with fail
        refine (vreadInt_any _ _ A2 (len - (n + n2)) (c - (n + n2)) (l.drop (n + n2)) HM2.out.2.2.2.1 HM2.out.2.2.2.2.1 HM2.out.2.1 (by omega) HM2.out.2.2.1).mono ?_
        rintro e w4 ⟨rfl, hb4⟩
        have hM := HM2.out.1
        rw [mget3_def] at hM
        obtain ⟨q, hq⟩ : ∃ q, q = l.drop (n + n2) := ⟨_, rfl⟩
        rw [← hq] at hM ⊢
        have hvl := vget_lt q
        obtain ⟨t, ht⟩ : ∃ t, t = zag (vget q).1 := ⟨_, rfl⟩
        obtain ⟨n3, hn3⟩ : ∃ n, n = (vget q).2.1 := ⟨_, rfl⟩
        obtain ⟨k3, hk3⟩ : ∃ k, k = (vget q).2.2 := ⟨_, rfl⟩
        rw [← ht, ← hn3, ← hk3] at hM
        rw [← hn3] at hvl
        rw [← ht, ← hn3, ← hk3]
        have hn310 := hvl.2.1
        have hS := HM2.out.2.2.2.2.2.call hb4
        clear hvl ht hn3 hk3 hb4 hq z0_0 z0_1 z0_2 hA1 HM2
        have hSb := (OwnR.of hS rfl).put [.bool true, .int .i64 t, .int .i64 lg] rfl
        have hS0 := hS.set 0 1 rfl (.int .i64 t)
        have z0_0 := hS.cell 0 0 rfl rfl; have z0_1 := hS.cell 0 1 rfl rfl; have z0_2 := hS.cell 0 2 rfl rfl
        have zf0 := hS.free 0 rfl
        have HB := Lib.hid (And.intro hS0 hM)
        clear hS hSb hS0 hM
        go_upto_region 9 with (fail)
        refine wp_gen (Own w [(x, 37, #[.bool true, .int .i64 t, .int .i64 lg])]) HB.out.1 ?_
        clear z0_0 z0_1 z0_2 zf0
        intro w5 hS
        have hM := HB.out.2
        clear HB
        by_cases h4 : k3 = 0
        · subst h4
          rw [if_neg (by omega)] at hM
          have z0_0 := hS.cell 0 0 rfl rfl; have z0_1 := hS.cell 0 1 rfl rfl; have z0_2 := hS.cell 0 2 rfl rfl
          have HT := Lib.hid hS
          clear hS
          by_cases hr : rightB true t lg = true
          · rw [if_pos hr] at hM
            have HM := Lib.hid (And.intro hM hr)
            clear hM hr
            go_wp2_with fail
            refine (right_any true t lg _).mono ?_
            rintro e w6 ⟨rfl, hb6⟩
            rw [HM.out.2]
            have hS := HT.out.call hb6
            clear z0_0 z0_1 z0_2 hb6 HT
            have z0_0 := hS.cell 0 0 rfl rfl; have z0_1 := hS.cell 0 1 rfl rfl; have z0_2 := hS.cell 0 2 rfl rfl
            have zf0 := hS.free 0 rfl
            have HT := Lib.hid hS
            clear hS
            have HP := Lib.hid (((OwnR.of HT.out rfl).put [.bool true, .int .i64 t, .int .i64 lg] rfl).bel)
            go_wp2_with fail
            exact bodyPost_ret (v := .tuple #[.agg #[.bool true, .int .i64 t, .int .i64 lg], .int .i64 ((n + n2 + n3 : Nat) : Int), .int .i64 0]) (by simp [results, Tryd.results13, go_sem, z0_0, z0_1, z0_2]) rfl ⟨mark_ret (e := 0) HM.out.1, HP.out⟩
          · rw [if_neg hr] at hM
            have HM := Lib.hid hM
            have HR := Lib.hid (show rightB true t lg = false by simpa using hr)
            clear hM hr
            go_wp2_with fail
            refine (right_any true t lg _).mono ?_
            rintro e w6 ⟨rfl, hb6⟩
            rw [HR.out]
            have hS := HT.out.call hb6
            clear z0_0 z0_1 z0_2 hb6 HT
            have z0_0 := hS.cell 0 0 rfl rfl; have z0_1 := hS.cell 0 1 rfl rfl; have z0_2 := hS.cell 0 2 rfl rfl
            have zf0 := hS.free 0 rfl
            have HT := Lib.hid hS
            clear hS
            have HP := Lib.hid (((OwnR.of HT.out rfl).put [.bool false, .int .i64 0, .int .i64 0] rfl).bel)
            go_wp2_with fail
            exact bodyPost_ret (v := .tuple #[.agg #[.bool false, .int .i64 0, .int .i64 0], .int .i64 0, .int .i64 11]) (by simp [results, Tryd.results13, go_sem, z0_0, z0_1, z0_2]) rfl ⟨mark_ret (e := 11) (n := 0) HM.out, HP.out⟩
        · rw [if_pos h4] at hM
          have HM := Lib.hid hM
          have d2 : ((k3 : Int) != 0) = true := by simp; omega
          clear hM h4
          have z0_0 := hS.cell 0 0 rfl rfl; have z0_1 := hS.cell 0 1 rfl rfl; have z0_2 := hS.cell 0 2 rfl rfl
          have zf0 := hS.free 0 rfl
          have HT := Lib.hid hS
          clear hS
          have HP := Lib.hid (((OwnR.of HT.out rfl).put [.bool false, .int .i64 0, .int .i64 0] rfl).bel)
          go_wp2_with fail
          exact bodyPost_ret (v := .tuple #[.agg #[.bool false, .int .i64 0, .int .i64 0], .int .i64 0, .int .i64 k3]) (by simp [results, Tryd.results13, go_sem, z0_0, z0_1, z0_2]) rfl ⟨mark_ret (e := k3) (n := 0) HM.out, HP.out⟩
      · have d1 : ((sn : Int) == 1) = false := by simp; omega
        by_cases h4 : 1 < sn
        · rw [if_pos h4] at hM
          have HM := Lib.hid hM
          have d2 : decide ((1 : Int) < (sn : Int)) = true := by simp; omega
          clear hM h3 h4
          have z0_0 := hS.cell 0 0 rfl rfl; have z0_1 := hS.cell 0 1 rfl rfl; have z0_2 := hS.cell 0 2 rfl rfl
          have zf0 := hS.free 0 rfl
          have HT := Lib.hid hS
          clear hS
          have HB := Lib.hid ((OwnR.of HT.out rfl).put [.bool false, .int .i64 0, .int .i64 lg] rfl)
          go_upto_region 7 with (fail)
          refine wp_gen (Own w [(x, 37, #[.bool false, .int .i64 0, .int .i64 lg])]) HB.out ?_
          clear z0_0 z0_1 z0_2 zf0 HT HB
          intro w3 hS
          have z0_0 := hS.cell 0 0 rfl rfl; have z0_1 := hS.cell 0 1 rfl rfl; have z0_2 := hS.cell 0 2 rfl rfl
          have zf0 := hS.free 0 rfl
          have HT := Lib.hid hS
          clear hS
          have HP := Lib.hid (((OwnR.of HT.out rfl).put [.bool false, .int .i64 0, .int .i64 0] rfl).bel)
          go_wp2_with fail
          exact bodyPost_ret (v := .tuple #[.agg #[.bool false, .int .i64 0, .int .i64 0], .int .i64 0, .int .i64 11]) (by simp [results, Tryd.results13, go_sem, z0_0, z0_1, z0_2]) rfl ⟨mark_ret (e := 11) (n := 0) HM.out, HP.out⟩
        · obtain rfl : sn = 0 := by omega
          rw [if_neg (by omega), if_neg (by omega)] at hM
          clear d1 h3 h4
          have z0_0 := hS.cell 0 0 rfl rfl; have z0_1 := hS.cell 0 1 rfl rfl; have z0_2 := hS.cell 0 2 rfl rfl
          have zf0 := hS.free 0 rfl
          have HT := Lib.hid hS
          clear hS
          have hSb := (OwnR.of HT.out rfl).put [.bool false, .int .i64 0, .int .i64 lg] rfl
          have HB := Lib.hid (And.intro hSb hM)
          clear hSb hM
          go_upto_region 7 with (fail)
          refine wp_gen (Own w [(x, 37, #[.bool false, .int .i64 0, .int .i64 lg])]) HB.out.1 ?_
          clear z0_0 z0_1 z0_2 zf0 HT
          intro w3 hS
          have hM := HB.out.2
          clear HB
          have z0_0 := hS.cell 0 0 rfl rfl; have z0_1 := hS.cell 0 1 rfl rfl; have z0_2 := hS.cell 0 2 rfl rfl
          have HT := Lib.hid hS
          clear hS
          by_cases hr : rightB false 0 lg = true
          · rw [if_pos hr] at hM
            have HM := Lib.hid (And.intro hM hr)
            clear hM hr
            go_wp2_with fail
            refine (right_any false 0 lg _).mono ?_
            rintro e w6 ⟨rfl, hb6⟩
            rw [HM.out.2]
            have hS := HT.out.call hb6
            clear z0_0 z0_1 z0_2 hb6 HT
            have z0_0 := hS.cell 0 0 rfl rfl; have z0_1 := hS.cell 0 1 rfl rfl; have z0_2 := hS.cell 0 2 rfl rfl
            have zf0 := hS.free 0 rfl
            have HT := Lib.hid hS
            clear hS
            have HP := Lib.hid (((OwnR.of HT.out rfl).put [.bool false, .int .i64 0, .int .i64 lg] rfl).bel)
            go_wp2_with fail
            exact bodyPost_ret (v := .tuple #[.agg #[.bool false, .int .i64 0, .int .i64 lg], .int .i64 ((n + n2 : Nat) : Int), .int .i64 0]) (by simp [results, Tryd.results13, go_sem, z0_0, z0_1, z0_2]) rfl ⟨mark_ret (e := 0) HM.out.1, HP.out⟩
          · rw [if_neg hr] at hM
            have HM := Lib.hid hM
            have HR := Lib.hid (show rightB false 0 lg = false by simpa using hr)
            clear hM hr
            go_wp2_with fail
            refine (right_any false 0 lg _).mono ?_
            rintro e w6 ⟨rfl, hb6⟩
            rw [HR.out]
            have hS := HT.out.call hb6
            clear z0_0 z0_1 z0_2 hb6 HT
            have z0_0 := hS.cell 0 0 rfl rfl; have z0_1 := hS.cell 0 1 rfl rfl; have z0_2 := hS.cell 0 2 rfl rfl
            have zf0 := hS.free 0 rfl
            have HT := Lib.hid hS
            clear hS
            have HP := Lib.hid (((OwnR.of HT.out rfl).put [.bool false, .int .i64 0, .int .i64 0] rfl).bel)
            go_wp2_with fail
            exact bodyPost_ret (v := .tuple #[.agg #[.bool false, .int .i64 0, .int .i64 0], .int .i64 0, .int .i64 11]) (by simp [results, Tryd.results13, go_sem, z0_0, z0_1, z0_2]) rfl ⟨mark_ret (e := 11) (n := 0) HM.out, HP.out⟩
    · rw [if_pos h2] at hM
      have HM := Lib.hid hM
      have d2 : ((k2 : Int) != 0) = true := by simp; omega
      have d3 : ((k2 : Int) == 0) = false := by simp; omega
      obtain rfl : sn = 0 := by omega
      clear hM h2 hve
      have z0_0 := hS.cell 0 0 rfl rfl; have z0_1 := hS.cell 0 1 rfl rfl; have z0_2 := hS.cell 0 2 rfl rfl
      have zf0 := hS.free 0 rfl
      have HT := Lib.hid hS
      clear hS
      have HB := Lib.hid ((OwnR.of HT.out rfl).put [.bool false, .int .i64 0, .int .i64 lg] rfl)
      go_upto_region 7 with (fail)
      refine wp_gen (Own w [(x, 37, #[.bool false, .int .i64 0, .int .i64 lg])]) HB.out ?_
      clear z0_0 z0_1 z0_2 zf0 HT HB
      intro w3 hS
      have z0_0 := hS.cell 0 0 rfl rfl; have z0_1 := hS.cell 0 1 rfl rfl; have z0_2 := hS.cell 0 2 rfl rfl
      have zf0 := hS.free 0 rfl
      have HT := Lib.hid hS
      clear hS
      have HP := Lib.hid (((OwnR.of HT.out rfl).put [.bool false, .int .i64 0, .int .i64 0] rfl).bel)
      go_wp2_with fail
      exact bodyPost_ret (v := .tuple #[.agg #[.bool false, .int .i64 0, .int .i64 0], .int .i64 0, .int .i64 k2]) (by simp [results, Tryd.results13, go_sem, z0_0, z0_1, z0_2]) rfl ⟨mark_ret (e := k2) (n := 0) HM.out, HP.out⟩
  · rw [if_pos h0] at hM
    have HM := Lib.hid hM
    have d0 : ((k : Int) != 0) = true := by simp; omega
    clear hM h0
    have z0_0 := hS.cell 0 0 rfl rfl; have z0_1 := hS.cell 0 1 rfl rfl; have z0_2 := hS.cell 0 2 rfl rfl
    have zf0 := hS.free 0 rfl
    have HT := Lib.hid hS
    clear hS
    have HP := Lib.hid (((OwnR.of HT.out rfl).put [.bool false, .int .i64 0, .int .i64 0] rfl).bel)
    go_wp2_with fail
    exact bodyPost_ret (v := .tuple #[.agg #[.bool false, .int .i64 0, .int .i64 0], .int .i64 0, .int .i64 k]) (by simp [results, Tryd.results13, go_sem, z0_0, z0_1, z0_2]) rfl ⟨mark_ret (e := k) (n := 0) HM.out, HP.out⟩
end Go.Proofs.YtgceeihdmhghiaaDoor
