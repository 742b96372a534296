/-
  Proved: points of more than one block are told across the borders of the blocks, for every number of points, start and length that the law draws.
  No condition beyond those of the given row. (The frame follows the kit's proof-skeleton; the walk is the text SegmentManyW of this claim.)
-/
import Derived.Test.YtopbbicjbjmdnaaGreatDoorJ16
import Derived.Test.YtopbbicjbjmdnaaGreatDoorJ15
import Derived.Test.YtopbbicjbjmdnaaGreatDoorJ13
import Derived.Test.YtopbbicjbjmdnaaGreatDoorJ17
import Derived.Test.YtopbbicjbjmdnaaGreatDoorCards
import Derived.Test.YtopbbicjbjmdnaaGreatDoorTie
import Derived.WalkKit
import Derived.ProofKit
import Derived.OpenShut
import Derived.ShutString
import Derived.ChangeOld
import Derived.Below
import Derived.SizedLaws
import Derived.ChangeVars
import Derived.Lib.SmallJoins
import Derived.LaidLaws
import Derived.LaidHandle
import Derived.Stop.Joined
import Derived.Deep.DeepHandedRow
namespace Go.Proofs.YtopbbicjbjmdnaaGreatDoor
open Go.RowKit Go.Maps
set_option maxRecDepth 100000
set_option linter.unusedVariables false
set_option linter.unusedSimpArgs false
theorem colAll_of {f : Nat → Pt} {a n : Nat} (h1 : ∀ j, j < n → -1152921504606846976 ≤ (f j).t ∧ (f j).t ≤ 1152921504606846976 ∧ 0 ≤ (f j).s ∧ (f j).s ≤ 1152921504606846976) (h2 : ∀ j, j + 1 < n → (f j).t < (f (j + 1)).t) : ∀ k, a + k ≤ n → colAll (shiftP f a) k = true
  | 0, _ => rfl
  | k + 1, hk => by
    show (colAll (shiftP f a) k && colOk (shiftP f a) k) = true
    rw [colAll_of h1 h2 k (by omega), Bool.true_and]
    refine (colOk_iff _ _).2 ⟨?_, (h1 (a + k) (by omega)).2⟩
    match k with
    | 0 => have := (h1 (a + 0) (by omega)).1; show -1152921504606846977 < (f (a + 0)).t; omega
    | k + 1 => exact h2 (a + k) (by omega)
theorem bV_of {f : Nat → Pt} {n : Nat} (h1 : ∀ j, j < n → -1152921504606846976 ≤ (f j).t ∧ (f j).t ≤ 1152921504606846976 ∧ 0 ≤ (f j).s ∧ (f j).s ≤ 1152921504606846976) (h2 : ∀ j, j + 1 < n → (f j).t < (f (j + 1)).t) : ∀ m, m ≤ nbl n → bV f n m = true
  | 0, _ => rfl
  | m + 1, hm => by
    show (bV f n m && stepV f n m) = true
    have hmn : 1024 * m < n := by unfold nbl at hm; omega
    have hb : 1024 * m + blkN n (1024 * m) ≤ n := by unfold blkN; omega
    rw [bV_of h1 h2 m (by omega), Bool.true_and]
    unfold stepV colV
    rw [colAll_of h1 h2 _ hb, Bool.true_and]
    simp only [Bool.and_eq_true, decide_eq_true_eq, Bool.or_eq_true, beq_iff_eq]
    refine ⟨⟨by unfold blkN; omega, by unfold blkN; omega⟩, ?_⟩
    rcases Nat.eq_zero_or_pos m with h0 | h0
    · exact .inl h0
    · right
      have := h2 (1024 * m - 1) (by omega)
      rw [show 1024 * m - 1 + 1 = 1024 * m by omega] at this
      exact this
def manyP (j : Nat) : Pt := if j < 4096 then ⟨j, (j : Int) * j, j⟩ else ⟨0, 0, 0⟩
theorem manyP_at {j : Nat} (h : j < 4096) : manyP j = ⟨j, (j : Int) * j, j⟩ := by unfold manyP; rw [if_pos h]
theorem sq_le {j : Nat} (h : j < 4096) : (j : Int) * j ≤ 16777216 ∧ 0 ≤ (j : Int) * j := by
  have h1 : j * j ≤ 4096 * 4096 := Nat.mul_le_mul (by omega) (by omega)
  have h2 : (j : Int) * j = ((j * j : Nat) : Int) := by simp
  rw [h2]; omega
theorem manyP_ok (j : Nat) : PtOk (manyP j) := by
  unfold manyP
  split
  · rename_i h
    have := sq_le h
    exact ⟨⟨by show _ ≤ (j : Int); omega, by show (j : Int) ≤ _; omega⟩, ⟨by show _ ≤ (j : Int) * j; omega, by show (j : Int) * j ≤ _; omega⟩, ⟨by show _ ≤ (j : Int); omega, by show (j : Int) ≤ _; omega⟩⟩
  · exact ⟨⟨by simp, by simp⟩, ⟨by simp, by simp⟩, ⟨by simp, by simp⟩⟩
theorem many_bV {n : Nat} (hn : n ≤ 4096) : bV manyP n (nbl n) = true := by
  refine bV_of (fun j hj => ?_) (fun j hj => ?_) _ (Nat.le_refl _)
  · rw [manyP_at (by omega)]
    refine ⟨?_, ?_, ?_, ?_⟩ <;> simp <;> omega
  · rw [manyP_at (by omega), manyP_at (by omega)]
    simp <;> omega
theorem selL_many (F T : Nat) : ∀ n, n ≤ 4096 → selL manyP F T n = (List.range (min T n - min F n)).map fun j => manyP (min F n + j)
  | 0, _ => by simp [selL]
  | n + 1, hn => by
    have ih := selL_many F T n (by omega)
    show (if inS F T (manyP n) = true then selL manyP F T n ++ [manyP n] else selL manyP F T n) = _
    have hin : inS F T (manyP n) = (decide (F ≤ n) && decide (n < T)) := by
      rw [manyP_at (by omega)]
      unfold inS
      simp
    rw [hin, ih]
    by_cases h1 : F ≤ n
    · by_cases h2 : n < T
      · rw [if_pos (by simp [h1, h2]), show min T (n + 1) - min F (n + 1) = (min T n - min F n) + 1 by omega, List.range_succ, List.map_append, show min F (n + 1) = min F n by omega]
        simp only [List.map_cons, List.map_nil]
        rw [show min F n + (min T n - min F n) = n by omega]
      · rw [if_neg (by simp [h2]), show min T (n + 1) - min F (n + 1) = min T n - min F n by omega, show min F (n + 1) = min F n by omega]
    · rw [if_neg (by simp [h1]), show min T (n + 1) - min F (n + 1) = 0 by omega, show min T n - min F n = 0 by omega]
      rfl
/-- 'p[m:n]' of points. -/
theorem slice_pts (hs : ∀ w : World, (sizeOf 30).run Tryz.prog w = .ok 3 w) (A : Option Addr) (len c m n : Nat) (hmn : m ≤ n) (hn : n ≤ len) (hlc : len ≤ c) :
    ∃ A', (∀ w : World, (Instr.slice 31 (.slice A len c) (some (.int .i64 (m : Nat))) (some (.int .i64 (n : Nat))) none).run Tryz.prog w = .ok (.slice A' (n - m) (c - m)) w) ∧
      (∀ (w : World) (D : Nat → Prop) (f : Nat → Pt), SlP w D A len f → SlP w D A' (n - m) (fun j => f (m + j))) := by
  have ht : Tryz.prog.underlying 31 = some (.slice 30) := Tryz.underlying31
  have he : Tryz.prog.elem 31 = 30 := by simp [Program.elem, ht]
  have ht' : Tryz.prog.underlying 31 = some (.slice (Tryz.prog.elem 31)) := by rw [he]; exact ht
  refine ⟨if c = m then A else A.map (·.add (m * 3)), fun w => ?_, fun w D f h => ?_⟩
  · rw [run_slice_lh w _ A len c ht' .i64 .i64 (m : Nat) (n : Nat) (by omega) (by omega) (by omega), he, hs]
    simp [Result.andThen, sliced]
  · intro hlt
    rw [if_neg (by omega)]
    obtain ⟨b, off, rfl, -, -⟩ := h (by omega)
    have h2 : SlP w D (some ⟨b, off, none⟩) (m + (len - m)) f := by rw [show m + (len - m) = len by omega]; exact h
    have := (h2.drop.take (show n - m ≤ len - m by omega)) hlt
    rw [show (some (⟨b, off, none⟩ : Addr)).map (·.add (m * 3)) = some ⟨b, off + m * 3, none⟩ by simp [Addr.add]]
    exact this
theorem size3 (w : World) : (sizeOf 30).run Tryz.prog w = .ok 3 w := by kernel_rfl
def xNm : Nat → ByteArray := fun _ => ⟨#[120]⟩
theorem x_names : namesOk xNm 1 = true := by kernel_rfl
theorem sptr_ne (y : Nat) (w : World) : (binOp .eql 35 (.pointer (some ⟨y, 0, none⟩)) (.pointer none)).run Tryz.prog w = .ok (.bool false) w := by kernel_rfl
set_option maxHeartbeats 1000000 in
theorem segmentMany_walk (n0 f0 l0 : Int) (w : World) (w0 : (Lit.int .i64 n0).wf = true) (w1 : (Lit.int .i64 f0).wf = true) (w2 : (Lit.int .i64 l0).wf = true) (hv : V.HErr w) :
    Calls Tryz.prog 5 #[.int .i64 n0, .int .i64 f0, .int .i64 l0] w fun e w' => e = .returned (.bool true) ∧ Below w.heap.size w w' := by
  clear w0 w1 w2
  have kn := and_1023 n0
  have kf : bits .and .i64 f0 2047 = ((f0 % 2048).toNat : Int) := and_mask_i64 f0 11 (by omega)
  have kl : bits .and .i64 l0 2047 = ((l0 % 2048).toNat : Int) := and_mask_i64 l0 11 (by omega)
  obtain ⟨n1, hn1⟩ : ∃ n1, n1 = (n0 % 1024).toNat := ⟨_, rfl⟩
  obtain ⟨F, hF⟩ : ∃ F, F = (f0 % 2048).toNat := ⟨_, rfl⟩
  obtain ⟨G, hG⟩ : ∃ G, G = (l0 % 2048).toNat := ⟨_, rfl⟩
  rw [← hn1] at kn
  rw [← hF] at kf
  rw [← hG] at kl
  have hn1b : n1 < 1024 := by omega
  have hFb : F < 2048 := by omega
  have hGb : G < 2048 := by omega
  clear hn1 hF hG
  obtain ⟨n, hn⟩ : ∃ n, n = 1000 + n1 := ⟨_, rfl⟩
  have kw : IntKind.i64.wrap (1000 + (n1 : Int)) = (n : Int) := by rw [IntWalk.i64_in _ (by omega)]; omega
  have hnb : n ≤ 2023 := by omega
  have hn0 : 1000 ≤ n := by omega
  have HV := Lib.hid hv
  clear hn hv
  go_enter Tryz.func5, Tryz.ntmps5
  go_wp2_with fail
  clear kn kw
  go_loopw [7, 8] (fun pv iv wr => ∃ j, j ≤ n ∧ iv = .int .i64 (j : Nat) ∧ PtRow wr w.heap.size pv ((List.range j).map manyP) ∧ Below w.heap.size w wr) (fun _ iv _ => n - (intOf iv).toNat)
  case atStart => exact ⟨0, by omega, rfl, PtRow.nil _ _, Below.refl _ _⟩
  case round =>
    obtain ⟨j, hj, rfl, hrow, hbel⟩ := hrel
    obtain ⟨Ap, cp, hvp, hcp⟩ := hrow.form
    subst hvp
    obtain ⟨l, hl⟩ : ∃ l, l = (List.range j).map manyP := ⟨_, rfl⟩
    rw [← hl] at hrow hcp ⊢
    by_cases hlt : j < n
    · have hjk : (j : Int) < (n : Int) := by omega
      have hsq := sq_le (show j < 4096 by omega)
      have km : wrap64 ((j : Int) * (j : Int)) = (j : Int) * (j : Int) := IntWalk.wrap64_in _ (by omega)
      have hll : l.length = j := by rw [hl]; simp
      have HR := Lib.hid (And.intro hrow (And.intro hbel (And.intro hl hll)))
      obtain ⟨q, hq⟩ : ∃ q, q = (j : Int) * (j : Int) := ⟨_, rfl⟩
      have km' : wrap64 ((j : Int) * (j : Int)) = q := by rw [km, hq]
      clear km
      have HQ := Lib.hid hq
      clear hrow hbel hl hsq hq hll
      go_wp2_with (at_builtin; refine wpList_append_pt (base := w.heap.size) (p := ⟨j, q, j⟩) (l := l) rfl (.tmp 27) (.tmp 34) rfl rfl rfl ?hown ?hg ?h63 ?hbase ?_)
      case hown => exact HR.out.1.below ((Below.refl _ _).alloc (Nat.le_refl _) _)
      case hg => exact Blk.fresh _ _ _
      case h63 => rw [HR.out.2.2.2]; omega
      case hbase => have := HR.out.2.1.size; simp; omega
      intro v10 w10 hr10 hg10 hx10
      have hb10 := grown_bel (HR.out.2.1.alloc HR.out.2.1.size (.cells #[.int .i64 (j : Nat), .int .i64 q, .int .i64 (j : Nat)] 30)) (HR.out.1.below ((Below.refl _ _).alloc (Nat.le_refl _) _)) hg10
      have hr10' : PtRow w10 w.heap.size v10 ((List.range (j + 1)).map manyP) := by
        rw [List.range_succ, List.map_append, ← HR.out.2.2.1]
        simp only [List.map_cons, List.map_nil]
        rw [manyP_at (show j < 4096 by omega), ← HQ.out]
        exact hr10
      have H10 := Lib.hid (And.intro hr10' hb10)
      clear hr10 hg10 hx10 hr10' hb10
      go_wp2_with fail
      go_roundw
      case rel => exact ⟨j + 1, by omega, by go_num, H10.out.1, H10.out.2⟩
      case measure => simp [intOf] <;> omega
    · obtain rfl : j = n := by omega
      have hll : l.length = j := by rw [hl]; simp
      rw [hll] at hrow hcp ⊢
      have HR := Lib.hid (And.intro hrow (And.intro hbel (And.intro hl hll)))
      clear hrow hbel hl hll
      go_wp2_with fail
      have hcap := V.own_cap (show wr.ownsRow w.heap.size 30 3 (.slice Ap j cp) l.length (ptCells l) from HR.out.1)
      have hslP : SlP wr (fun q => q < wr.heap.size) Ap j manyP := by
        have h1 := PtRow.sl (l := l) (by rw [HR.out.2.2.2]; exact HR.out.1)
        rw [HR.out.2.2.2] at h1
        refine (slp_in h1).congr fun i hi => ?_
        rw [HR.out.2.2.1, List.getD_eq_getElem?_getD, List.getElem?_map, List.getElem?_range hi]
        rfl
      have hP := part_one (s := ⟨#[120]⟩) hslP hcap.1 hcap.2 manyP_ok (by show 1 ≤ _; omega)
      have hfew : fewN xNm (fun _ => j) 1 1 < 2500 := by show 10 * 1 + j + 1 < 2500; omega
      have hSm : Small xNm (fun _ => manyP) (fun _ => j) 1 := few_small (fun _ => manyP_ok) hfew
      have hfit := few_fits (pf := fun _ => manyP) (fun _ => manyP_ok) hfew
      have hsv : (namesOk xNm 1 && (decide (0 < 1) && sV (fun _ => manyP) (fun _ => j) 1)) = true := by
        rw [x_names]
        show (true && (true && (true && (bV manyP j (nbl j) && decide (0 < j))))) = true
        rw [many_bV (by omega)]
        simp; omega
      obtain ⟨g0, hBt, hFl⟩ := sB_good hSm hfit hsv
      have hal : Below wr.heap.size wr (wr.alloc (.cells #[.string ⟨#[120]⟩, .slice Ap j cp] 33)) := (Below.refl _ _).alloc (Nat.le_refl _) _
      have hbuild := build_any _ _ 1 1 xNm _ (fun _ => j) _ (fun _ => manyP) hP hSm
      unfold BuildPost at hbuild
      rw [g0] at hbuild
      obtain ⟨L, hL⟩ : ∃ L, L = (sB xNm (fun _ => manyP) (fun _ => j) 1).1 := ⟨_, rfl⟩
      rw [← hL] at hbuild hFl
      obtain ⟨ll, hll⟩ : ∃ ll, ll = L.length := ⟨_, rfl⟩
      rw [← hll] at hbuild
      have HP := Lib.hid (And.intro hbuild (And.intro hBt (And.intro hFl (And.intro hll (And.intro hal hslP)))))
      clear hP hfew hSm hfit hsv g0 hBt hFl hbuild hL hll hal hslP
      refine HP.out.1.mono ?_
      rintro e w2 ⟨v2, rfl, ho2, hb2⟩
      obtain ⟨A2, c2, hv2, -, -⟩ := own_form ho2
      subst hv2
      have hb02 : Below wr.heap.size wr w2 := HP.out.2.2.2.2.1.trans (hb2.mono HP.out.2.2.2.2.1.size)
      have hw2 := HR.out.2.1.trans (hb02.mono HR.out.2.1.size)
      have hcap2 := V.own_cap ho2
      have hopen := open_ok w2 A2 ll c2 L _ xNm (fun _ => manyP) (fun _ => j) 1 HP.out.2.2.1 HP.out.2.1 HP.out.2.2.2.1.symm (V.ow_sl ho2) hcap2.1 hcap2.2 (HV.out.below hw2)
      have H2 := Lib.hid (And.intro hopen (And.intro hb02 hw2))
      clear ho2 hb2 hb02 hw2 hcap2 hopen
      go_wp2_with fail
      refine H2.out.1.mono ?_
      rintro e w3 ⟨p, M, o, Ab, cb, cn, VS, rfl, hseg, hb3⟩
      have H3 := Lib.hid (And.intro hseg (And.intro (H2.out.2.1.trans (hb3.mono H2.out.2.1.size)) (H2.out.2.2.trans (hb3.mono H2.out.2.2.size))))
      clear hseg hb3
      have qn := sptr_ne
      go_wp2_with fail
      refine (scount_any w3 p _ xNm _ (fun _ => j) 1 M o Ab cb cn VS H3.out.1 HP.out.2.1).mono ?_
      rintro e w4 ⟨rfl, hb4⟩
      have eps : psum (fun _ => j) 1 = j := by show 0 + j = j; omega
      rw [eps]
      have H4 := Lib.hid (And.intro (H3.out.1.below hb4) (And.intro (H3.out.2.1.trans (hb4.mono H3.out.2.1.size)) (H3.out.2.2.trans (hb4.mono H3.out.2.2.size))))
      clear hb4 eps
      have kt : IntKind.i64.wrap ((F : Int) + (G : Int)) = ((F + G : Nat) : Int) := by rw [IntWalk.i64_in _ (by omega)]; omega
      obtain ⟨T, hT⟩ : ∃ T, T = F + G := ⟨_, rfl⟩
      rw [← hT] at kt
      have HT := Lib.hid hT
      have hTb : T < 4096 := by omega
      have hFT : F ≤ T := by omega
      clear hT
      have hpts := gpoints_any w4 p xNm (fun _ => manyP) (fun _ => j) 1 M o Ab cb cn VS H4.out.1 HP.out.2.1 (by have h1 := HP.out.2.2.1.fl; have h2 := HP.out.2.2.1.len; omega) (fun _ => manyP_ok) 0 (by omega) (F : Int) (T : Int) (HV.out.below H4.out.2.2)
      rw [selL_many F T j (by omega)] at hpts
      have HPt := Lib.hid hpts
      clear hpts
      go_wp2_with fail
      refine HPt.out.mono ?_
      rintro e w5 ⟨hb5, v5, rfl, hrow5⟩
      obtain ⟨x0, hx0⟩ : ∃ x0, x0 = min F j := ⟨_, rfl⟩
      obtain ⟨z0, hz0⟩ : ∃ z0, z0 = min T j := ⟨_, rfl⟩
      rw [← hx0, ← hz0] at hrow5
      obtain ⟨lq, hlq⟩ : ∃ lq, lq = (List.range (z0 - x0)).map fun i => manyP (x0 + i) := ⟨_, rfl⟩
      have hll : lq.length = z0 - x0 := by rw [hlq]; simp
      rw [← hlq] at hrow5
      obtain ⟨A5, c5, hv5, hc5⟩ := hrow5.form
      subst hv5
      have hs5 := hrow5.sl
      rw [hll] at hs5 hc5 ⊢
      have hm1 : min (F : Int) (j : Int) = (x0 : Int) := by omega
      have hm2 : min (T : Int) (j : Int) = (z0 : Int) := by omega
      have hxz : x0 ≤ z0 := by omega
      have hzj : z0 ≤ j := by omega
      obtain ⟨A6, hA6, hA6'⟩ := slice_pts size3 Ap j cp x0 z0 hxz hzj hcp
      have hs6 := hA6' w5 _ manyP ((HP.out.2.2.2.2.2.below (H4.out.2.1.trans (hb5.mono H4.out.2.1.size))))
      have heq : sameL (fun i => lq.getD i ⟨0, 0, 0⟩) (fun i => manyP (x0 + i)) (z0 - x0) (z0 - x0) = true := sameL_of rfl fun i hi => by
        rw [hlq, List.getD_eq_getElem?_getD, List.getElem?_map, List.getElem?_range hi]
        rfl
      have hsame := same_any A5 A6 (z0 - x0) (z0 - x0) c5 (cp - x0) _ _ _ _ w5 hs5 hs6 (by omega) (by omega)
      rw [heq] at hsame
      have H5 := Lib.hid (And.intro hsame (H4.out.2.2.trans (hb5.mono H4.out.2.2.size)))
      clear hrow5 hs5 hs6 heq hsame hb5 hlq hll hA6' hx0 hz0 hFT hTb
      go_wp2_with fail
      refine H5.out.1.mono ?_
      rintro e w6 ⟨rfl, hb6⟩
      have H6 := Lib.hid (H5.out.2.trans (hb6.mono H5.out.2.size))
      clear hb6
      go_wp2_with fail
      go_ret
      exact ⟨rfl, H6.out⟩
end Go.Proofs.YtopbbicjbjmdnaaGreatDoor
namespace Go.Proofs.YtopbbicjbjmdnaaGreatDoor.segmentMany
open Go.ChangeShapes Go.WideShapes Go.ChangeAt Go.RowKit
open Go.ChangeMaps (open_string shut_string)
set_option linter.unusedVariables false

theorem own : ownKnob Tryz.prog.godebug = none := by kernel_rfl
theorem laidOut : laidOutB Tryz.prog = true := by kernel_rfl

theorem errAt : Tryz.prog.globalNamed "errors.errorType" = some 0 := by kernel_rfl
theorem rtAt : (Tryz.prog.cutTypes.find? (·.1 == "internal/reflectlite.rtype")).map (·.2) = some 131 := by kernel_rfl
theorem oneRow : ((List.range Tryz.prog.types.size).filter fun t => Tryz.prog.rowNamed t [101, 114, 114, 111, 114]) = [69] := by kernel_rfl
/-- What the row's list gives: the variable's one cell. -/
theorem herr {W : World} (h : laidMetH Tryz.prog Rows.segmentManyRow.laid W) : V.HErr W := by
  have h' : laidMet Tryz.prog [] W ∧ handlesMet Tryz.prog Rows.segmentManyRow.laid W := h
  obtain ⟨name, u, ty, e1, e2, e3, e4, e5⟩ := h'.2 _ (List.mem_singleton.2 rfl)
  have en : name = [101, 114, 114, 111, 114] := (Option.some.inj e1).symm
  subst en
  obtain rfl := Option.some.inj (rtAt.symm.trans e2)
  have hm : ty ∈ (List.range Tryz.prog.types.size).filter fun t => Tryz.prog.rowNamed t [101, 114, 114, 111, 114] := List.mem_filter.2 ⟨List.mem_range.2 e3, e4⟩
  rw [oneRow] at hm
  obtain rfl := List.mem_singleton.1 hm
  have hh : typeHandle Tryz.prog 69 = .pointer (some ⟨2, 69, none⟩) := by kernel_rfl
  rw [hh] at e5
  have := World.var?_cell errAt e5 0
  simpa [V.HErr] using this
/-- A world that meets the condition: the settled one, the variable's cell laid. -/
noncomputable def laidWorld (os : Os) : World :=
  let w0 := World.holding Tryz.prog os ⟨#[], #[], []⟩
  { w0 with heap := w0.heap.modify 0 fun
      | .cells _ t frozen => .cells #[.iface 131 (.agg #[.pointer (some ⟨2, 69, none⟩)])] t frozen
      | o => o }
theorem laid_met (os : Os) (args : Array Value) : laidMetH Tryz.prog Rows.segmentManyRow.laid ((laidWorld os).forCall (fun _ _ => 0) ⟨#[], args, []⟩).memory :=
  laidMetH_of_parts (laidMet_nil _ _) (by kernel_rfl)
theorem reads (os : Os) {H : Type} (enc : TypeId × Value → H) : ∃ places, DataW.whole enc Tryz.prog ((laidWorld os).forCall (fun _ _ => 0) ⟨#[], #[.int .i64 0, .int .i64 0, .int .i64 0], []⟩).memory Tryz.f5.params.toList Rows.segmentManySpec.vars false #[.int .i64 0, .int .i64 0, .int .i64 0].toList 8 = some ([.lit (.int .i64 0), .lit (.int .i64 0), .lit (.int .i64 0)], [], places) :=
  ⟨[], by kernel_rfl⟩

set_option maxRecDepth 100000 in
theorem lifted (os : Os) (started : os.Started) (H : Type) (enc : TypeId × Value → H) (F : Stop.Interp) :
    ReturnsInHanded {} Tryz.checked os 5 .any ((OpenSpec.ofChange Rows.segmentManySpec).preRow enc Tryz.prog Tryz.f5 Rows.segmentManyRow.domain false Rows.segmentManyRow.laid) (((OpenSpec.ofChange Rows.segmentManySpec).at F).post enc Tryz.prog Tryz.f5 false true false false) := by
  obtain ⟨places, hx⟩ := reads os enc
  refine returnsInHanded_of_row (C := Tryz.checked) (s := OpenSpec.ofChange Rows.segmentManySpec) own started (by kernel_rfl) Tryz.func5
    (witness_row_at (enc := enc) (C := Tryz.checked) false (laidWorld os) #[.int .i64 0, .int .i64 0, .int .i64 0] rfl (by kernel_rfl) (by kernel_rfl) (by kernel_rfl)
      (OpenSpec.preRow_of_cond 8 hx (by kernel_rfl) (fun k hk => by cases hk) (by kernel_rfl) (laid_met os _))) ?_
  intro W base args ds gs before hval0 hW hcnd _ hsz0 hL _ _
  have hErr := herr hL
  have hval : ∀ (j : Nat) t v, Tryz.f5.params[j]? = some t → args[j]? = some v → Value.okWide Tryz.prog W .any base t v := hval0
  have hW' := hW
  obtain ⟨p, q, hA0, hV, rfl, hfz, hnd⟩ := hW
  have hA : DataW.TrodAll enc Tryz.prog W 0 (fun _ => true) true Tryz.f5.params.toList args.toList ds p := hA0
  rw [Tryz.params5] at hA hval
  obtain ⟨v0, vs0, d0, ds0, p0, q0, hargs, rfl, rfl, h0, r0⟩ := trodAll_cons hA
  obtain ⟨v1, vs1, d1, ds1, p1, q1, rfl, rfl, rfl, h1, r1⟩ := trodAll_cons r0
  obtain ⟨v2, vs2, d2, ds2, p2, q2, rfl, rfl, rfl, h2, r2⟩ := trodAll_cons r1
  obtain ⟨rfl, rfl, rfl⟩ := trodAll_nil r2
  obtain rfl : args = #[v0, v1, v2] := by cases args; simp_all
  obtain ⟨rfl, rfl⟩ := trodVars_none hV
  obtain ⟨a0, rfl, rfl, rfl, w0⟩ := open_int Tryz.underlying3 (hval 0 3 v0 rfl rfl) h0
  obtain ⟨a1, rfl, rfl, rfl, w1⟩ := open_int Tryz.underlying3 (hval 1 3 v1 rfl rfl) h1
  obtain ⟨a2, rfl, rfl, rfl, w2⟩ := open_int Tryz.underlying3 (hval 2 3 v2 rfl rfl) h2
  clear hA0 hval0
  refine (segmentMany_walk a0 a1 a2 W w0 w1 w2 hErr).mono fun e W' ⟨he, bel⟩ => ?_
  subst he
  exact ⟨_, rfl, _, _, _, [], _, [], hW', trodAll_mk1 (shut_bool Tryz.underlying4 _), (trodAll_cons_mk (shut_int Tryz.underlying3 w0) (trodAll_cons_mk (shut_int Tryz.underlying3 w1) (trodAll_cons_mk (shut_int Tryz.underlying3 w2) trodAll_mk0))), rfl, bel.frame _, fun h => by cases h⟩

theorem said : Rows.SegmentManySaid :=
  OpenClaim.holds_of_cond 5 Tryz.f5 rfl rfl rfl rfl rfl rfl rfl ⟨rfl, rfl, rfl, rfl, rfl⟩ rfl rfl rfl rfl rfl (by kernel_rfl) Tryz.func5 (by kernel_rfl)
    (of_decide_eq_true (by kernel_rfl)) (by unfold Func.isWrapper; first | (rw [if_pos (by decide +kernel)]; kernel_rfl) | (rw [if_neg (by decide +kernel)]; exact ⟨rfl, rfl⟩))
    (fun os started H enc _ F => by rw [OpenClaim.pre_eq_preRow]; exact lifted os started H enc F)

/-- No parameter wants a stand-in; the program's own looks are off: what the card asks. -/
theorem plainArgs (f : FuncId) (fn : Func) (hf : Tryz.pinned.checked.prog.funcNamed "tidemill/tidemilllaw14.SegmentMany" = some f) (hfn : Tryz.pinned.checked.prog.funcs[f]? = some fn) :
    true = Tryz.pinned.checked.prog.looks [] ∧ ∀ (j : Nat) t, fn.params[j]? = some t → Tryz.pinned.checked.prog.wantsStandIn t = false := by
  obtain rfl : f = 5 := Option.some.inj ((show Tryz.prog.funcNamed "tidemill/tidemilllaw14.SegmentMany" = some 5 by kernel_rfl).symm.trans hf) |>.symm
  obtain rfl : fn = Tryz.f5 := (Option.some.inj (Tryz.func5.symm.trans hfn)).symm
  refine ⟨by kernel_rfl, fun j t ht => ?_⟩
  rw [Tryz.params5] at ht
  have hall : ([3, 3, 3] : List TypeId).all (fun t => Tryz.prog.wantsStandIn t == false) = true := by kernel_rfl
  have hm : t ∈ ([3, 3, 3] : List TypeId) := by simpa using Array.mem_of_getElem? ht
  have hr : Tryz.prog.wantsStandIn t = false := by simpa using List.all_eq_true.1 hall t hm
  exact hr

theorem proved : Rows.SegmentManyCardSaid :=
  Claim7.holds_tied_plain_at .later [] _ _ _ _ said (fun _ h => by cases h) (by kernel_rfl) (fun _ h => by cases h) segmentMany_row_tie rfl ⟨rfl, rfl⟩ (by kernel_rfl) rfl plainArgs (by kernel_rfl)
#print axioms proved
end Go.Proofs.YtopbbicjbjmdnaaGreatDoor.segmentMany
