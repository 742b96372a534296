/-
  Proved: what is built of few parts is opened again, with its series, and of any span it has just their points of that span.
  No condition beyond those of the given row. (The frame follows the kit's proof-skeleton; the walk is the text SegmentBackW of this claim.)
-/
import Derived.Test.YtopbbicjbjmdnaaGreatDoorJ01
import Derived.Test.YtopbbicjbjmdnaaGreatDoorChecked
import Derived.OpenShut
import Derived.WideShapes
import Derived.RowKit
import Derived.Test.YtopbbicjbjmdnaaGreatDoorJ16
import Derived.Test.YtopbbicjbjmdnaaGreatDoorJ15
import Derived.Test.YtopbbicjbjmdnaaGreatDoorJ17
import Derived.Test.YtopbbicjbjmdnaaGreatDoorJ13
import Derived.Test.YtopbbicjbjmdnaaGreatDoorCards
import Derived.Test.YtopbbicjbjmdnaaGreatDoorTie
import Derived.WalkKit
import Derived.ProofKit
import Derived.ShutString
import Derived.ChangeOld
import Derived.Below
import Derived.SizedLaws
import Derived.ChangeVars
import Derived.Lib.SmallJoins
import Derived.LaidLaws
import Derived.LaidHandle
import Derived.Stop.Joined
import Derived.Deep.DeepHandedRow
namespace Go.Proofs.YtopbbicjbjmdnaaGreatDoor
open Go.RowKit Go.WideShapes
set_option maxRecDepth 100000
set_option linter.unusedVariables false
set_option linter.unusedSimpArgs false
theorem array2 {α : Type} {cs : Array α} (h : cs.size = 2) : ∃ c0 c1, cs = #[c0, c1] := by
  obtain ⟨l⟩ := cs
  match l, h with
  | [c0, c1], _ => exact ⟨c0, c1, rfl⟩
theorem open_pair {H : Type} {enc : TypeId × Value → H} {w : World} {r : Go.Reach} {b0 b : Nat} {spare : Nat → Bool} {held : Bool} {v : Value} {d : DataW H} {p : List MemPlace}
    (hv : Value.okWide Tryz.prog w r b0 42 v) (h : DataW.Trod enc Tryz.prog w b spare held 42 v d p) : ∃ s t : Int, v = .agg #[.int .i64 s, .int .i64 t] := by
  simp only [Value.okWide, Tryz.underlying42] at hv
  obtain ⟨cs, rfl, hsz, _⟩ := hv
  rw [show Tryz.prog.cellsOf 42 = 2 by kernel_rfl] at hsz
  obtain ⟨c0, c1, rfl⟩ := array2 hsz
  obtain ⟨fuel, hf⟩ := h
  obtain ⟨xs, m, _, ex, _, hl, hel⟩ := DataW.trod_array Tryz.underlying42 hf
  have c5 : Tryz.prog.cellsOf 3 = 1 := by kernel_rfl
  have h0 := hel 0 (by omega)
  have h1 := hel 1 (by omega)
  rw [c5, List.getElem?_eq_getElem (by omega)] at h0 h1
  obtain ⟨s, e0, _, _⟩ := DataW.trod_int Tryz.underlying3 h0
  obtain ⟨t, e1, _, _⟩ := DataW.trod_int Tryz.underlying3 h1
  simp [Value.cells] at e0 e1
  subst e0 e1
  exact ⟨s, t, rfl⟩
end Go.Proofs.YtopbbicjbjmdnaaGreatDoor
namespace Go.Proofs.YtopbbicjbjmdnaaGreatDoor
open Go.RowKit Go.Maps
set_option maxRecDepth 100000
set_option linter.unusedVariables false
set_option linter.unusedSimpArgs false
theorem not_f_b (w : World) : (Op.unary .not (.bool false)).run Tryz.prog w = .ok (.bool true) w := by kernel_rfl
theorem not_t_b (w : World) : (Op.unary .not (.bool true)).run Tryz.prog w = .ok (.bool false) w := by kernel_rfl
theorem sptr_ne_b (y : Nat) (w : World) : (binOp .eql 35 (.pointer (some ⟨y, 0, none⟩)) (.pointer none)).run Tryz.prog w = .ok (.bool false) w := by kernel_rfl
/-- The whole time holds every point of a part. -/
theorem selL_whole {f : Nat → Pt} {n : Nat} (h : bV f n (nbl n) = true) : selL f (-4611686018427387904) 4611686018427387904 n = (List.range n).map f := selL_all n fun j hj => by
  have := part_range h hj
  unfold inS
  rw [Bool.and_eq_true, decide_eq_true_eq, decide_eq_true_eq]
  omega
theorem getD_range {f : Nat → Pt} {n j : Nat} (h : j < n) : ((List.range n).map f).getD j ⟨0, 0, 0⟩ = f j := by
  rw [List.getD_eq_getElem?_getD, List.getElem?_map, List.getElem?_range h]
  rfl
/-- Rows of points that are one are the same. -/
theorem same_rows {A B : Option Addr} {c d : Nat} {w : World} {b1 b2 : Nat} {l : List Pt} (h1 : PtRow w b1 (.slice A l.length c) l) (h2 : PtRow w b2 (.slice B l.length d) l) :
    Calls Tryz.prog 11 #[.slice A l.length c, .slice B l.length d] w (BoolPost true w) := by
  have e : sameL (fun j => l.getD j ⟨0, 0, 0⟩) (fun j => l.getD j ⟨0, 0, 0⟩) l.length l.length = true := sameL_of rfl fun _ _ => rfl
  have hc := V.own_cap (show w.ownsRow b1 30 3 (.slice A l.length c) l.length (ptCells l) from h1)
  have := same_any A B l.length l.length c d _ _ _ _ w h1.sl h2.sl (by omega) (by omega)
  rw [e] at this
  exact this
set_option maxHeartbeats 1000000 in
theorem segmentBack_walk (a : Option Addr) (k c : Nat) (nm : Nat → ByteArray) (pa : Nat → Option Addr) (pn pc : Nat → Nat) (pf : Nat → Nat → Pt) (s t : Int) (w : World) (h : PartsAt w a k nm pa pn pc pf) (hr : Reach nm pn k) (hv : V.HErr w) :
    Calls Tryz.prog 4 #[.slice a k c, .agg #[.int .i64 s, .int .i64 t]] w fun e w' => e = .returned (.bool true) ∧ Below w.heap.size w w' := by
  have HV := Lib.hid hv
  have H0 := Lib.hid (And.intro h hr)
  clear h hr hv
  go_enter Tryz.func4, Tryz.ntmps4
  go_upto_region 1 with (fail)
  obtain ⟨sp, hsp⟩ : ∃ sp, sp = w.heap.size := ⟨_, rfl⟩
  rw [← hsp]
  have hal : Below w.heap.size w (w.alloc (.cells #[.int .i64 s, .int .i64 t] 42)) := (Below.refl _ _).alloc (Nat.le_refl _) _
  refine wp_gen (fun wx => Below w.heap.size w wx ∧ Blk wx sp 42 #[.int .i64 s, .int .i64 t]) ⟨hal, by rw [hsp]; exact Blk.fresh _ _ _⟩ ?_
  rintro w0 ⟨hb0, hspb⟩
  have HS := Lib.hid (And.intro hb0 hspb)
  clear hb0 hspb hal hsp
  have nf := not_f_b
  have nt := not_t_b
  have qn := sptr_ne_b
  go_wp2_with fail
  refine (few_any w0 a k c nm pa pn pc pf (H0.out.1.below HS.out.1) H0.out.2).mono ?_
  rintro e w1 ⟨rfl, hb1⟩
  cases hf : decide (fewN nm pn k k < 2500) with
  | false =>
    have HB := Lib.hid (HS.out.1.trans (hb1.mono HS.out.1.size))
    clear hf hb1
    go_wp2_with fail
    go_ret
    exact ⟨rfl, HB.out⟩
  | true =>
    have hfew := of_decide_eq_true hf
    have hs := few_small (pf := pf) H0.out.1.ok hfew
    have hfit := few_fits (pf := pf) H0.out.1.ok hfew
    have hw1 := HS.out.1.trans (hb1.mono HS.out.1.size)
    have HB := Lib.hid (And.intro hw1 (And.intro (HS.out.2.below hb1 HS.out.2.lt) (H0.out.1.below hw1)))
    have hk4 := hs.kb
    have HSm := Lib.hid (And.intro hs hfit)
    clear hf hb1 hs hfit hw1 hfew
    go_wp2_with fail
    refine (build_any w1 a k c nm pa pn pc pf HB.out.2.2 HSm.out.1).mono ?_
    rintro e w2 ⟨v2, rfl, ho2, hb2⟩
    rcases sB_cases HSm.out.1 HSm.out.2 with hno | ⟨hg0, hBt, hFl⟩
    · rw [hno] at ho2 ⊢
      obtain ⟨A2, c2, hv2, -, -⟩ := own_form ho2
      subst hv2
      have H2 := Lib.hid (HB.out.1.trans (hb2.mono HB.out.1.size))
      clear ho2 hb2 hno
      go_wp2_with fail
      go_ret
      exact ⟨rfl, H2.out⟩
    · rw [hg0]
      obtain ⟨L, hL⟩ : ∃ L, L = (sB nm pf pn k).1 := ⟨_, rfl⟩
      rw [← hL] at ho2 hFl
      obtain ⟨ll, hll⟩ : ∃ ll, ll = L.length := ⟨_, rfl⟩
      rw [← hll] at ho2
      obtain ⟨A2, c2, hv2, -, -⟩ := own_form ho2
      subst hv2
      have hcap2 := V.own_cap ho2
      have hw2 := HB.out.1.trans (hb2.mono HB.out.1.size)
      have hopen := open_ok w2 A2 ll c2 L _ nm pf pn k hFl hBt hll.symm (V.ow_sl ho2) hcap2.1 hcap2.2 (HV.out.below hw2)
      have hO20 : (sO pf pn k).length ≤ 1048576 := by have h1 := hFl.fl; have h2 := hFl.len; omega
      have H2 := Lib.hid (And.intro hw2 (And.intro (HB.out.2.1.below hb2 HB.out.2.1.lt) (And.intro (HB.out.2.2.below hb2) (And.intro hBt hopen))))
      clear ho2 hb2 hcap2 hw2 hopen hBt hFl hL hll hg0
      go_wp2_with fail
      refine H2.out.2.2.2.2.mono ?_
      rintro e w3 ⟨p, M, o, Ab, cb, cn, VS, rfl, hseg, hb3⟩
      have H3 := Lib.hid (And.intro hseg (And.intro (H2.out.1.trans (hb3.mono H2.out.1.size)) (And.intro (H2.out.2.1.below hb3 H2.out.2.1.lt) (H2.out.2.2.1.below hb3))))
      clear hseg hb3
      go_wp2_with fail
      refine (snames_any w3 p _ nm pf pn k M o Ab cb cn VS H3.out.1 hk4).mono ?_
      rintro e w4 ⟨A4, c4, rfl, -, hb4, -⟩
      have H4 := Lib.hid (And.intro (H3.out.1.below hb4) (And.intro (H3.out.2.1.trans (hb4.mono H3.out.2.1.size)) (And.intro (H3.out.2.2.1.below hb4 H3.out.2.2.1.lt) (H3.out.2.2.2.below hb4))))
      clear hb4
      go_wp2_with fail
      go_loopw [8] (fun iv wr => ∃ i, i ≤ k ∧ iv = .int .i64 (i : Nat) ∧ Below w4.heap.size w4 wr) (fun iv _ => k - (intOf iv).toNat)
      case atStart => exact ⟨0, by omega, rfl, Below.refl _ _⟩
      case round =>
        obtain ⟨i, hi, rfl, hb⟩ := hrel
        by_cases hlt : i < k
        · have hik : (i : Int) < (k : Int) := by omega
          obtain ⟨b, off, hA, hbl, hcell⟩ := H4.out.2.2.2.row (by omega)
          subst hA
          obtain ⟨x, hx⟩ : ∃ x, x = nm i := ⟨_, rfl⟩
          have hce : ∀ wx, Below w4.heap.size w4 wx → wx.cell? ⟨b, off + i * 2, none⟩ = some (.string x) ∧ wx.cell? ⟨b, off + i * 2 + 1, none⟩ = some (.slice (pa i) (pn i) (pc i)) ∧ wx.cell? ⟨sp, 0, none⟩ = some (.int .i64 s) ∧ wx.cell? ⟨sp, 1, none⟩ = some (.int .i64 t) := fun wx hx' => by
            rw [hx]
            exact ⟨(hx'.cell (by exact hbl)).trans (hcell i hlt).1, (hx'.cell (by exact hbl)).trans (hcell i hlt).2, (hx'.cell (by exact H4.out.2.2.1.lt)).trans (H4.out.2.2.1.cell 0), (hx'.cell (by exact H4.out.2.2.1.lt)).trans (H4.out.2.2.1.cell 1)⟩
          obtain ⟨n, hn⟩ : ∃ n, n = pn i := ⟨_, rfl⟩
          obtain ⟨f, hfe⟩ : ∃ f, f = pf i := ⟨_, rfl⟩
          have hn4 : n ≤ 4096 := by rw [hn]; exact H2.out.2.2.2.1.pb i hlt
          have hpl := H4.out.2.2.2.le i hlt
          rw [← hn] at hce hpl
          have hgp : ∀ wx, Below w4.heap.size w4 wx → ∀ a' b' : Int, Calls Tryz.prog 10 #[.pointer (some ⟨p, 0, none⟩), .string x, .int .i64 a', .int .i64 b'] wx (GoodPts wx (selL f a' b' n)) := fun wx hx' a' b' => by
            rw [hx, hn, hfe]
            exact gpoints_any wx p nm pf pn k M o Ab cb cn VS (H4.out.1.below hx') H2.out.2.2.2.1 hO20 H0.out.1.ok i hlt a' b' (HV.out.below (H4.out.2.1.trans (hx'.mono H4.out.2.1.size)))
          have hslp : ∀ wx, Below w4.heap.size w4 wx → SlP wx (fun q => q < w4.heap.size) (pa i) n f := fun wx hx' => by
            rw [hn, hfe]
            exact (H4.out.2.2.2.pts i hlt).below hx'
          have hwh : selL f (-4611686018427387904) 4611686018427387904 n = (List.range n).map f := by rw [hn, hfe]; exact selL_whole (H2.out.2.2.2.1.bv hlt)
          have HI := Lib.hid (And.intro hce (And.intro hgp (And.intro hslp (And.intro hwh hb))))
          clear hce hgp hslp hwh hx hn hfe hcell
          go_upto_region 12 with (fail)
          have hS := HI.out.2.2.2.2.drew
          have hS : (Below w4.heap.size w4) (wr.drew) := hS
          refine reg_start (Below w4.heap.size w4) (by kernel_rfl) hS ?_
          generalize wr.drew = wd at hS ⊢
          clear hb
          have HD := Lib.hid hS
          refine reg_take (i := 0) (v := ?_) rfl (by kernel_rfl) (by kernel_rfl) (by kernel_rfl) (fun _ _ _ h => h) (Or.inl ⟨by kernel_rfl, ?_⟩) hS ?_
          rotate_left
          · (intro w' hSw; have u0 := (HI.out.1 w' hSw).1; have u2 := (HI.out.1 w' hSw).2.2.1; have u3 := (HI.out.1 w' hSw).2.2.2; go_simp <;> with_reducible rfl)
          try simp only [List.getElem_toArray, List.getElem_cons_succ, List.getElem_cons_zero, Act.put, List.setIfInBounds_toArray, List.set_cons_zero, List.set_cons_succ]
          refine reg_take (i := 1) (v := ?_) rfl (by kernel_rfl) (by kernel_rfl) (by kernel_rfl) (fun _ _ _ h => h) (Or.inl ⟨by kernel_rfl, ?_⟩) hS ?_
          rotate_left
          · (intro w' hSw; have u0 := (HI.out.1 w' hSw).1; have u2 := (HI.out.1 w' hSw).2.2.1; have u3 := (HI.out.1 w' hSw).2.2.2; go_simp <;> with_reducible rfl)
          try simp only [List.getElem_toArray, List.getElem_cons_succ, List.getElem_cons_zero, Act.put, List.setIfInBounds_toArray, List.set_cons_zero, List.set_cons_succ]
          refine reg_take (i := 2) (v := ?_) rfl (by kernel_rfl) (by kernel_rfl) (by kernel_rfl) (fun _ _ _ h => h) (Or.inl ⟨by kernel_rfl, ?_⟩) hS ?_
          rotate_left
          · (intro w' hSw; have u0 := (HI.out.1 w' hSw).1; have u2 := (HI.out.1 w' hSw).2.2.1; have u3 := (HI.out.1 w' hSw).2.2.2; go_simp <;> with_reducible rfl)
          try simp only [List.getElem_toArray, List.getElem_cons_succ, List.getElem_cons_zero, Act.put, List.setIfInBounds_toArray, List.set_cons_zero, List.set_cons_succ]
          refine reg_take (i := 3) (v := ?_) rfl (by kernel_rfl) (by kernel_rfl) (by kernel_rfl) (fun _ _ _ h => h) (Or.inl ⟨by kernel_rfl, ?_⟩) hS ?_
          rotate_left
          · (intro w' hSw; have u0 := (HI.out.1 w' hSw).1; have u2 := (HI.out.1 w' hSw).2.2.1; have u3 := (HI.out.1 w' hSw).2.2.2; go_simp <;> with_reducible rfl)
          try simp only [List.getElem_toArray, List.getElem_cons_succ, List.getElem_cons_zero, Act.put, List.setIfInBounds_toArray, List.set_cons_zero, List.set_cons_succ]
          refine reg_take (i := 4) (v := ?_) rfl (by kernel_rfl) (by kernel_rfl) (by kernel_rfl) (fun _ _ _ h => h) (Or.inl ⟨by kernel_rfl, ?_⟩) hS ?_
          rotate_left
          · (intro w' hSw; have u0 := (HI.out.1 w' hSw).1; have u2 := (HI.out.1 w' hSw).2.2.1; have u3 := (HI.out.1 w' hSw).2.2.2; go_simp <;> with_reducible rfl)
          try simp only [List.getElem_toArray, List.getElem_cons_succ, List.getElem_cons_zero, Act.put, List.setIfInBounds_toArray, List.set_cons_zero, List.set_cons_succ]
          refine reg_take (i := 5) (v := ?_) rfl (by kernel_rfl) (by kernel_rfl) (by kernel_rfl) (fun _ _ _ h => h) (Or.inl ⟨by kernel_rfl, ?_⟩) hS ?_
          rotate_left
          · (intro w' hSw; have u0 := (HI.out.1 w' hSw).1; have u2 := (HI.out.1 w' hSw).2.2.1; have u3 := (HI.out.1 w' hSw).2.2.2; go_simp <;> with_reducible rfl)
          try simp only [List.getElem_toArray, List.getElem_cons_succ, List.getElem_cons_zero, Act.put, List.setIfInBounds_toArray, List.set_cons_zero, List.set_cons_succ]
          refine reg_take (i := 6) (v := ?_) rfl (by kernel_rfl) (by kernel_rfl) (by kernel_rfl) (fun _ _ _ h => h) (Or.inl ⟨by kernel_rfl, ?_⟩) hS ?_
          rotate_left
          · (intro w' hSw; have u0 := (HI.out.1 w' hSw).1; have u2 := (HI.out.1 w' hSw).2.2.1; have u3 := (HI.out.1 w' hSw).2.2.2; go_simp <;> with_reducible rfl)
          try simp only [List.getElem_toArray, List.getElem_cons_succ, List.getElem_cons_zero, Act.put, List.setIfInBounds_toArray, List.set_cons_zero, List.set_cons_succ]
          refine reg_take (i := 7) (v := ?_) rfl (by kernel_rfl) (by kernel_rfl) (by kernel_rfl) (fun _ _ _ h => h) (Or.inl ⟨by kernel_rfl, ?_⟩) hS ?_
          rotate_left
          · (intro w' hSw; have u0 := (HI.out.1 w' hSw).1; have u2 := (HI.out.1 w' hSw).2.2.1; have u3 := (HI.out.1 w' hSw).2.2.2; go_simp <;> with_reducible rfl)
          try simp only [List.getElem_toArray, List.getElem_cons_succ, List.getElem_cons_zero, Act.put, List.setIfInBounds_toArray, List.set_cons_zero, List.set_cons_succ]
          refine reg_take (i := 8) (v := ?_) rfl (by kernel_rfl) (by kernel_rfl) (by kernel_rfl) (fun _ _ _ h => h) (Or.inl ⟨by kernel_rfl, ?_⟩) hS ?_
          rotate_left
          · (intro w' hSw; have u0 := (HI.out.1 w' hSw).1; have u2 := (HI.out.1 w' hSw).2.2.1; have u3 := (HI.out.1 w' hSw).2.2.2; go_simp <;> with_reducible rfl)
          try simp only [List.getElem_toArray, List.getElem_cons_succ, List.getElem_cons_zero, Act.put, List.setIfInBounds_toArray, List.set_cons_zero, List.set_cons_succ]
          refine reg_take (i := 9) (v := ?_) rfl (by kernel_rfl) (by kernel_rfl) (by kernel_rfl) (fun _ _ _ h => h) (Or.inl ⟨by kernel_rfl, ?_⟩) hS ?_
          rotate_left
          · (intro w' hSw; have u0 := (HI.out.1 w' hSw).1; have u2 := (HI.out.1 w' hSw).2.2.1; have u3 := (HI.out.1 w' hSw).2.2.2; go_simp <;> with_reducible rfl)
          try simp only [List.getElem_toArray, List.getElem_cons_succ, List.getElem_cons_zero, Act.put, List.setIfInBounds_toArray, List.set_cons_zero, List.set_cons_succ]
          refine reg_call (i := 10) rfl (by kernel_rfl) (fun K hK => ?_)
          have HK := Lib.hid hK
          clear hK
          go_simp
          refine (HI.out.2.1 wd HD.out s t).mono ?_
          rintro e w5 ⟨hb5, v5, rfl, hr5⟩
          obtain ⟨A5, c5, hv5, -⟩ := hr5.form
          subst hv5
          obtain ⟨lx, hlx⟩ : ∃ lx, lx = selL f s t n := ⟨_, rfl⟩
          rw [← hlx] at hr5 ⊢
          have H5 := Lib.hid (And.intro hr5 (And.intro (HD.out.trans (hb5.mono HD.out.size)) hlx))
          clear hr5 hb5 hlx
          go_wp2_with fail
          refine HK.out.to (Below w4.heap.size w4) (fun _ h => h) (H5.out.2.1) ?_
          clear HK hS
          have hS : (Below w4.heap.size w4) (w5) := H5.out.2.1
          try simp only [List.getElem_toArray, List.getElem_cons_succ, List.getElem_cons_zero, Act.put, List.setIfInBounds_toArray, List.set_cons_zero, List.set_cons_succ]
          refine reg_take (i := 11) (v := ?_) rfl (by kernel_rfl) (by kernel_rfl) (by kernel_rfl) (fun _ _ _ h => h) (Or.inl ⟨by kernel_rfl, ?_⟩) hS ?_
          rotate_left
          · (intro w' hSw; go_simp <;> with_reducible rfl)
          try simp only [List.getElem_toArray, List.getElem_cons_succ, List.getElem_cons_zero, Act.put, List.setIfInBounds_toArray, List.set_cons_zero, List.set_cons_succ]
          refine reg_take (i := 12) (v := ?_) rfl (by kernel_rfl) (by kernel_rfl) (by kernel_rfl) (fun _ _ _ h => h) (Or.inl ⟨by kernel_rfl, ?_⟩) hS ?_
          rotate_left
          · (intro w' hSw; go_simp <;> with_reducible rfl)
          try simp only [List.getElem_toArray, List.getElem_cons_succ, List.getElem_cons_zero, Act.put, List.setIfInBounds_toArray, List.set_cons_zero, List.set_cons_succ]
          refine reg_take (i := 13) (v := ?_) rfl (by kernel_rfl) (by kernel_rfl) (by kernel_rfl) (fun _ _ _ h => h) (Or.inl ⟨by kernel_rfl, ?_⟩) hS ?_
          rotate_left
          · (intro w' hSw; go_simp <;> with_reducible rfl)
          try simp only [List.getElem_toArray, List.getElem_cons_succ, List.getElem_cons_zero, Act.put, List.setIfInBounds_toArray, List.set_cons_zero, List.set_cons_succ]
          refine reg_take (i := 14) (v := ?_) rfl (by kernel_rfl) (by kernel_rfl) (by kernel_rfl) (fun _ _ _ h => h) (Or.inl ⟨by kernel_rfl, ?_⟩) hS ?_
          rotate_left
          · (intro w' hSw; go_simp <;> with_reducible rfl)
          try simp only [List.getElem_toArray, List.getElem_cons_succ, List.getElem_cons_zero, Act.put, List.setIfInBounds_toArray, List.set_cons_zero, List.set_cons_succ]
          refine reg_take (i := 15) (v := ?_) rfl (by kernel_rfl) (by kernel_rfl) (by kernel_rfl) (fun _ _ _ h => h) (Or.inl ⟨by kernel_rfl, ?_⟩) hS ?_
          rotate_left
          · (intro w' hSw; go_simp <;> with_reducible rfl)
          try simp only [List.getElem_toArray, List.getElem_cons_succ, List.getElem_cons_zero, Act.put, List.setIfInBounds_toArray, List.set_cons_zero, List.set_cons_succ]
          refine wpAnyH_done (by kernel_rfl) ?_ _
          try simp only [List.getElem_toArray, List.getElem_cons_succ, List.getElem_cons_zero]
          try simp only [List.getElem_toArray, List.getElem_cons_succ, List.getElem_cons_zero, Act.put, List.setIfInBounds_toArray, List.set_cons_zero, List.set_cons_succ]
          clear hS
          have u0 := (HI.out.1 w5 H5.out.2.1).1
          go_wp2_with fail
          clear u0
          refine (HI.out.2.1 w5 H5.out.2.1 _ _).mono ?_
          rintro e w6 ⟨hb6, v6, rfl, hr6⟩
          rw [HI.out.2.2.2.1] at hr6
          obtain ⟨A6, c6, hv6, -⟩ := hr6.form
          subst hv6
          have hl6 : ((List.range n).map f).length = n := by simp
          rw [hl6] at hr6 ⊢
          have H6 := Lib.hid (And.intro (H5.out.1.below hb6) (And.intro hr6 (H5.out.2.1.trans (hb6.mono H5.out.2.1.size))))
          clear hr6 hb6 hl6
          go_wp2_with fail
          go_loopw [13, 14] (fun ov jv wr => ∃ j, j ≤ n ∧ jv = .int .i64 (j : Nat) ∧ PtRow wr w6.heap.size ov (selL f s t j) ∧ Below w6.heap.size w6 wr) (fun _ jv _ => n - (intOf jv).toNat)
          case atStart => exact ⟨0, by omega, rfl, PtRow.nil _ _, Below.refl _ _⟩
          case round =>
            obtain ⟨j, hj, rfl, hrow, hbq⟩ := hrel
            obtain ⟨Aq, cq, hvq, hcq⟩ := hrow.form
            subst hvq
            obtain ⟨lj, hlj⟩ : ∃ lj, lj = selL f s t j := ⟨_, rfl⟩
            rw [← hlj] at hrow hcq ⊢
            have hb4q := H6.out.2.2.trans (hbq.mono H6.out.2.2.size)
            have hcc := HI.out.1 wr hb4q
            have u1 := hcc.2.1
            have u2 := hcc.2.2.1
            have u3 := hcc.2.2.2
            by_cases hjn : j < n
            · have hjk : (j : Int) < (n : Int) := by omega
              obtain ⟨bb, oo, hA, -, hc⟩ := HI.out.2.2.1 wr hb4q (by omega)
              obtain ⟨P0, hP0⟩ : ∃ P0, P0 = f j := ⟨_, rfl⟩
              obtain ⟨tt, vv, ss⟩ := P0
              have hcj := hc j hjn
              rw [← hP0] at hcj
              rw [hA] at u1
              have c0 : wr.cell? ⟨bb, oo + j * 3, none⟩ = some (.int .i64 tt) := hcj.1
              have c1 : wr.cell? ⟨bb, oo + j * 3 + 1, none⟩ = some (.int .i64 vv) := hcj.2.1
              have c2 : wr.cell? ⟨bb, oo + j * 3 + 2, none⟩ = some (.int .i64 ss) := hcj.2.2
              have hs1 : inS s t ⟨tt, vv, ss⟩ = true → selL f s t (j + 1) = lj ++ [⟨tt, vv, ss⟩] := fun h => by
                show (if inS s t (f j) = true then selL f s t j ++ [f j] else _) = _
                rw [← hP0, if_pos h, hlj]
              have hs2 : inS s t ⟨tt, vv, ss⟩ = false → selL f s t (j + 1) = lj := fun h => by
                show (if inS s t (f j) = true then _ else selL f s t j) = _
                rw [← hP0, if_neg (by rw [h]; simp), hlj]
              have hll : lj.length ≤ j := by rw [hlj]; exact selL_len _ _ _ _
              have HQ := Lib.hid (And.intro hrow (And.intro hbq (And.intro hs1 hs2)))
              clear hrow hbq hs1 hs2 hc hcj hP0 hlj hA hb4q hcc
              by_cases k1 : s ≤ tt
              · have d4 : decide (s ≤ tt) = true := by simp; omega
                by_cases k2 : tt < t
                · have d5 : decide (tt < t) = true := by simp; omega
                  have HN := Lib.hid (show inS s t ⟨tt, vv, ss⟩ = true by unfold inS; rw [d4, d5]; rfl)
                  clear k1 k2
                  go_wp2_with (at_builtin; refine wpList_append_pt (base := w6.heap.size) (p := ⟨tt, vv, ss⟩) (l := lj) rfl (.tmp 111) (.tmp 120) rfl rfl rfl ?hown ?hg ?h63 ?hbase ?_)
                  case hown => exact HQ.out.1.below ((Below.refl _ _).alloc (Nat.le_refl _) _)
                  case hg => exact Blk.fresh _ _ _
                  case h63 => omega
                  case hbase => have := HQ.out.2.1.size; simp; omega
                  intro v10 w10 hr10 hg10 hx10
                  have hb10 := grown_bel (HQ.out.2.1.alloc HQ.out.2.1.size (.cells #[.int .i64 tt, .int .i64 vv, .int .i64 ss] 30)) (HQ.out.1.below ((Below.refl _ _).alloc (Nat.le_refl _) _)) hg10
                  have H10 := Lib.hid (And.intro hr10 hb10)
                  clear hr10 hg10 hx10 hb10 u1 u2 u3 c0 c1 c2
                  go_wp2_with fail
                  go_roundw
                  case rel => exact ⟨j + 1, by omega, by go_num, by rw [HQ.out.2.2.1 HN.out]; exact H10.out.1, H10.out.2⟩
                  case measure => simp [intOf] <;> omega
                · have d5 : decide (tt < t) = false := by simp; omega
                  have HN := Lib.hid (show inS s t ⟨tt, vv, ss⟩ = false by unfold inS; rw [d4, d5]; rfl)
                  clear k1 k2
                  go_wp2_with fail
                  go_roundw
                  case rel => exact ⟨j + 1, by omega, by go_num, by rw [HQ.out.2.2.2 HN.out]; exact HQ.out.1, HQ.out.2.1⟩
                  case measure => simp [intOf] <;> omega
              · have d4 : decide (s ≤ tt) = false := by simp; omega
                have HN := Lib.hid (show inS s t ⟨tt, vv, ss⟩ = false by unfold inS; rw [d4]; rfl)
                clear k1
                go_wp2_with fail
                go_roundw
                case rel => exact ⟨j + 1, by omega, by go_num, by rw [HQ.out.2.2.2 HN.out]; exact HQ.out.1, HQ.out.2.1⟩
                case measure => simp [intOf] <;> omega
            · obtain rfl : j = n := by omega
              have hxl : lj = lx := by rw [hlj, H5.out.2.2]
              subst hxl
              have hsame := same_rows (H6.out.1.below hbq) hrow
              have HQ := Lib.hid (And.intro hbq (And.intro hsame hb4q))
              clear hrow hbq hsame hlj hb4q hcc u2 u3
              go_wp2_with fail
              refine HQ.out.2.1.mono ?_
              rintro e w8 ⟨rfl, hb8⟩
              have hb48 := HQ.out.2.2.trans (hb8.mono HQ.out.2.2.size)
              have u1 := (HI.out.1 w8 hb48).2.1
              have hall : Calls Tryz.prog 11 #[.slice A6 j c6, .slice (pa i) j (pc i)] w8 (BoolPost true w8) := by
                have hr8 : PtRow w8 w5.heap.size (.slice A6 j c6) ((List.range j).map f) := H6.out.2.1.below (HQ.out.1.trans (hb8.mono HQ.out.1.size))
                have hsl := PtRow.sl (l := (List.range j).map f) (A := A6) (c := c6) (by rw [show ((List.range j).map f).length = j by simp]; exact hr8)
                rw [show ((List.range j).map f).length = j by simp] at hsl
                have e : sameL (fun i => ((List.range j).map f).getD i ⟨0, 0, 0⟩) f j j = true := sameL_of rfl fun i hi => getD_range hi
                have := same_any A6 (pa i) j j c6 (pc i) _ _ _ _ w8 hsl (HI.out.2.2.1 w8 hb48) (by omega) (by omega)
                rw [e] at this
                exact this
              have H8 := Lib.hid (And.intro hall hb48)
              clear hall hb48 hb8
              go_wp2_with fail
              refine H8.out.1.mono ?_
              rintro e w9 ⟨rfl, hb9⟩
              have H9 := Lib.hid (H8.out.2.trans (hb9.mono H8.out.2.size))
              clear hb9 u1
              go_wp2_with fail
              go_roundw
              case rel => exact ⟨i + 1, by omega, by go_num, H9.out⟩
              case measure => simp [intOf] <;> omega
        · have HF := Lib.hid (H4.out.2.1.trans (hb.mono H4.out.2.1.size))
          clear hb
          go_wp2_with fail
          go_ret
          exact ⟨rfl, HF.out⟩
end Go.Proofs.YtopbbicjbjmdnaaGreatDoor
namespace Go.Proofs.YtopbbicjbjmdnaaGreatDoor.segmentBack
open Go.ChangeShapes Go.WideShapes Go.ChangeAt Go.RowKit
open Go.ChangeMaps (open_string shut_string)
set_option linter.unusedVariables false

theorem own : ownKnob Tryz.prog.godebug = none := by kernel_rfl
theorem laidOut : laidOutB Tryz.prog = true := by kernel_rfl

theorem errAt : Tryz.prog.globalNamed "errors.errorType" = some 0 := by kernel_rfl
theorem rtAt : (Tryz.prog.cutTypes.find? (·.1 == "internal/reflectlite.rtype")).map (·.2) = some 131 := by kernel_rfl
theorem oneRow : ((List.range Tryz.prog.types.size).filter fun t => Tryz.prog.rowNamed t [101, 114, 114, 111, 114]) = [69] := by kernel_rfl
/-- What the row's list gives: the variable's one cell. -/
theorem herr {W : World} (h : laidMetH Tryz.prog Rows.segmentBackRow.laid W) : V.HErr W := by
  have h' : laidMet Tryz.prog [] W ∧ handlesMet Tryz.prog Rows.segmentBackRow.laid W := h
  obtain ⟨name, u, ty, e1, e2, e3, e4, e5⟩ := h'.2 _ (List.mem_singleton.2 rfl)
  have en : name = [101, 114, 114, 111, 114] := (Option.some.inj e1).symm
  subst en
  obtain rfl := Option.some.inj (rtAt.symm.trans e2)
  have hm : ty ∈ (List.range Tryz.prog.types.size).filter fun t => Tryz.prog.rowNamed t [101, 114, 114, 111, 114] := List.mem_filter.2 ⟨List.mem_range.2 e3, e4⟩
  rw [oneRow] at hm
  obtain rfl := List.mem_singleton.1 hm
  have hh : typeHandle Tryz.prog 69 = .pointer (some ⟨2, 69, none⟩) := by kernel_rfl
  rw [hh] at e5
  have := World.var?_cell errAt e5 0
  simpa [V.HErr] using this
/-- A world that meets the condition: the settled one, the variable's cell laid. -/
noncomputable def laidWorld (os : Os) : World :=
  let w0 := World.holding Tryz.prog os ⟨#[], #[], []⟩
  { w0 with heap := w0.heap.modify 0 fun
      | .cells _ t frozen => .cells #[.iface 131 (.agg #[.pointer (some ⟨2, 69, none⟩)])] t frozen
      | o => o }
theorem laid_met (os : Os) (args : Array Value) : laidMetH Tryz.prog Rows.segmentBackRow.laid ((laidWorld os).forCall (fun _ _ => 0) ⟨#[], args, []⟩).memory :=
  laidMetH_of_parts (laidMet_nil _ _) (by kernel_rfl)
theorem reads (os : Os) {H : Type} (enc : TypeId × Value → H) : ∃ places, DataW.whole enc Tryz.prog ((laidWorld os).forCall (fun _ _ => 0) ⟨#[], #[.slice none 0 0, .agg #[.int .i64 0, .int .i64 0]], []⟩).memory Tryz.f4.params.toList Rows.segmentBackSpec.vars false #[.slice none 0 0, .agg #[.int .i64 0, .int .i64 0]].toList 8 = some ([.nil, .agg [.lit (.int .i64 0), .lit (.int .i64 0)]], [], places) :=
  ⟨[], by kernel_rfl⟩

set_option maxRecDepth 100000 in
theorem lifted (os : Os) (started : os.Started) (H : Type) (enc : TypeId × Value → H) (F : Stop.Interp) :
    ReturnsInHanded {} Tryz.checked os 4 .any ((OpenSpec.ofChange Rows.segmentBackSpec).preRow enc Tryz.prog Tryz.f4 Rows.segmentBackRow.domain false Rows.segmentBackRow.laid) (((OpenSpec.ofChange Rows.segmentBackSpec).at F).post enc Tryz.prog Tryz.f4 false true false false) := by
  obtain ⟨places, hx⟩ := reads os enc
  refine returnsInHanded_of_row (C := Tryz.checked) (s := OpenSpec.ofChange Rows.segmentBackSpec) own started (by kernel_rfl) Tryz.func4
    (witness_row_at (enc := enc) (C := Tryz.checked) false (laidWorld os) #[.slice none 0 0, .agg #[.int .i64 0, .int .i64 0]] rfl (by kernel_rfl) (by kernel_rfl) (by kernel_rfl)
      (OpenSpec.preRow_of_cond 8 hx (by kernel_rfl) (fun k hk => by cases hk) (by kernel_rfl) (laid_met os _))) ?_
  intro W base args ds gs before hval0 hW hcnd _ hsz0 hL _ _
  have hErr := herr hL
  have hval : ∀ (j : Nat) t v, Tryz.f4.params[j]? = some t → args[j]? = some v → Value.okWide Tryz.prog W .any base t v := hval0
  have hW' := hW
  obtain ⟨p, q, hA0, hV, rfl, hfz, hnd⟩ := hW
  have hA : DataW.TrodAll enc Tryz.prog W 0 (fun _ => true) true Tryz.f4.params.toList args.toList ds p := hA0
  have hsz : (DataW.weightsEach Tryz.prog (Tryz.f4.params.toList ++ Rows.segmentBackSpec.plain.varTypes Tryz.prog) (ds ++ gs)).all (· ≤ reachBytes) = true := hsz0
  rw [Tryz.params4] at hA hval hsz
  obtain ⟨v0, vs0, d0, ds0, p0, q0, hargs, rfl, rfl, h0, r0⟩ := trodAll_cons hA
  obtain ⟨v1, vs1, d1, ds1, p1, q1, rfl, rfl, rfl, h1, r1⟩ := trodAll_cons r0
  obtain ⟨rfl, rfl, rfl⟩ := trodAll_nil r1
  obtain rfl : args = #[v0, v1] := by cases args; simp_all
  obtain ⟨rfl, rfl⟩ := trodVars_none hV
  obtain ⟨a0, len0, cap0, rfl⟩ := okWide_slice Tryz.underlying22 (hval 0 22 v0 rfl rfl)
  have k0 := h0
  have lt0 : ∀ x ∈ p0, x.block < W.heap.size := by obtain ⟨m, hm⟩ := k0; exact DataW.trod_lt m _ _ _ hm
  obtain ⟨nm0, pa0, pn0, pc0, pf0, w0, s0⟩ : ∃ nm pa pn pc pf, PartsAt W a0 len0 nm pa pn pc pf ∧ Reach nm pn len0 := by
    obtain ⟨fuel, hf⟩ := h0
    exact open_parts hf (fun n hn => of_decide_eq_true (List.all_eq_true.1 hsz n (DataW.weights_mem_each (j := 0) (t := 22) rfl rfl n hn)))
  have k1 := h1
  have lt1 : ∀ x ∈ p1, x.block < W.heap.size := by obtain ⟨m, hm⟩ := k1; exact DataW.trod_lt m _ _ _ hm
  obtain ⟨a1, b1, rfl⟩ := open_pair (hval 1 42 v1 rfl rfl) h1
  clear hA0 hval0
  refine (segmentBack_walk a0 len0 cap0 nm0 pa0 pn0 pc0 pf0 a1 b1 W w0 s0 hErr).mono fun e W' ⟨he, bel⟩ => ?_
  subst he
  exact ⟨_, rfl, _, _, _, [], _, [], hW', trodAll_mk1 (shut_bool Tryz.underlying4 _), (trodAll_cons_mk (Below.trod laidOut (by kernel_rfl) (of_decide_eq_true (by kernel_rfl)) k0 bel lt0) (trodAll_cons_mk (Below.trod laidOut (by kernel_rfl) (of_decide_eq_true (by kernel_rfl)) k1 bel lt1) trodAll_mk0)), rfl, bel.frame _, fun h => by cases h⟩

theorem said : Rows.SegmentBackSaid :=
  OpenClaim.holds_of_cond 4 Tryz.f4 rfl rfl rfl rfl rfl rfl rfl ⟨rfl, rfl, rfl, rfl, rfl⟩ rfl rfl rfl rfl rfl (by kernel_rfl) Tryz.func4 (by kernel_rfl)
    (of_decide_eq_true (by kernel_rfl)) (by unfold Func.isWrapper; first | (rw [if_pos (by decide +kernel)]; kernel_rfl) | (rw [if_neg (by decide +kernel)]; exact ⟨rfl, rfl⟩))
    (fun os started H enc _ F => by rw [OpenClaim.pre_eq_preRow]; exact lifted os started H enc F)

/-- No parameter wants a stand-in; the program's own looks are off: what the card asks. -/
theorem plainArgs (f : FuncId) (fn : Func) (hf : Tryz.pinned.checked.prog.funcNamed "tidemill/tidemilllaw14.SegmentBack" = some f) (hfn : Tryz.pinned.checked.prog.funcs[f]? = some fn) :
    true = Tryz.pinned.checked.prog.looks [] ∧ ∀ (j : Nat) t, fn.params[j]? = some t → Tryz.pinned.checked.prog.wantsStandIn t = false := by
  obtain rfl : f = 4 := Option.some.inj ((show Tryz.prog.funcNamed "tidemill/tidemilllaw14.SegmentBack" = some 4 by kernel_rfl).symm.trans hf) |>.symm
  obtain rfl : fn = Tryz.f4 := (Option.some.inj (Tryz.func4.symm.trans hfn)).symm
  refine ⟨by kernel_rfl, fun j t ht => ?_⟩
  rw [Tryz.params4] at ht
  have hall : ([22, 42] : List TypeId).all (fun t => Tryz.prog.wantsStandIn t == false) = true := by kernel_rfl
  have hm : t ∈ ([22, 42] : List TypeId) := by simpa using Array.mem_of_getElem? ht
  have hr : Tryz.prog.wantsStandIn t = false := by simpa using List.all_eq_true.1 hall t hm
  exact hr

theorem proved : Rows.SegmentBackCardSaid :=
  Claim7.holds_tied_plain_at .later [] _ _ _ _ said (fun _ h => by cases h) (by kernel_rfl) (fun _ h => by cases h) segmentBack_row_tie rfl ⟨rfl, rfl⟩ (by kernel_rfl) rfl plainArgs (by kernel_rfl)
#print axioms proved
end Go.Proofs.YtopbbicjbjmdnaaGreatDoor.segmentBack
