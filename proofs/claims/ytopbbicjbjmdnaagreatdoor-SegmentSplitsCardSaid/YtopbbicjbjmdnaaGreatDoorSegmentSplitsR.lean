/-
  Proved: the points of a span are those of its two parts, one behind the other, wherever it is cut, for all few parts, spans and cuts.
  No condition beyond those of the given row. (The frame follows the kit's proof-skeleton; the walk is the text SegmentSplitsW of this claim.)
-/
import Derived.Test.YtopbbicjbjmdnaaGreatDoorJ01
import Derived.Test.YtopbbicjbjmdnaaGreatDoorChecked
import Derived.OpenShut
import Derived.WideShapes
import Derived.RowKit
import Derived.Test.YtopbbicjbjmdnaaGreatDoorJ14
import Derived.BigFrame
import Derived.Test.YtopbbicjbjmdnaaGreatDoorJ15
import Derived.Test.YtopbbicjbjmdnaaGreatDoorJ16
import Derived.Test.YtopbbicjbjmdnaaGreatDoorJ17
import Derived.Test.YtopbbicjbjmdnaaGreatDoorJ13
import Derived.Test.YtopbbicjbjmdnaaGreatDoorCards
import Derived.Test.YtopbbicjbjmdnaaGreatDoorTie
import Derived.WalkKit
import Derived.ProofKit
import Derived.ShutString
import Derived.ChangeOld
import Derived.Below
import Derived.SizedLaws
import Derived.ChangeVars
import Derived.Lib.SmallJoins
import Derived.LaidLaws
import Derived.LaidHandle
import Derived.Stop.Joined
import Derived.Deep.DeepHandedRow
namespace Go.Proofs.YtopbbicjbjmdnaaGreatDoor
open Go.RowKit Go.WideShapes
set_option maxRecDepth 100000
set_option linter.unusedVariables false
set_option linter.unusedSimpArgs false
theorem array2 {α : Type} {cs : Array α} (h : cs.size = 2) : ∃ c0 c1, cs = #[c0, c1] := by
  obtain ⟨l⟩ := cs
  match l, h with
  | [c0, c1], _ => exact ⟨c0, c1, rfl⟩
theorem open_pair {H : Type} {enc : TypeId × Value → H} {w : World} {r : Go.Reach} {b0 b : Nat} {spare : Nat → Bool} {held : Bool} {v : Value} {d : DataW H} {p : List MemPlace}
    (hv : Value.okWide Tryz.prog w r b0 42 v) (h : DataW.Trod enc Tryz.prog w b spare held 42 v d p) : ∃ s t : Int, v = .agg #[.int .i64 s, .int .i64 t] := by
  simp only [Value.okWide, Tryz.underlying42] at hv
  obtain ⟨cs, rfl, hsz, _⟩ := hv
  rw [show Tryz.prog.cellsOf 42 = 2 by kernel_rfl] at hsz
  obtain ⟨c0, c1, rfl⟩ := array2 hsz
  obtain ⟨fuel, hf⟩ := h
  obtain ⟨xs, m, _, ex, _, hl, hel⟩ := DataW.trod_array Tryz.underlying42 hf
  have c5 : Tryz.prog.cellsOf 3 = 1 := by kernel_rfl
  have h0 := hel 0 (by omega)
  have h1 := hel 1 (by omega)
  rw [c5, List.getElem?_eq_getElem (by omega)] at h0 h1
  obtain ⟨s, e0, _, _⟩ := DataW.trod_int Tryz.underlying3 h0
  obtain ⟨t, e1, _, _⟩ := DataW.trod_int Tryz.underlying3 h1
  simp [Value.cells] at e0 e1
  subst e0 e1
  exact ⟨s, t, rfl⟩
end Go.Proofs.YtopbbicjbjmdnaaGreatDoor
namespace Go.Proofs.YtopbbicjbjmdnaaGreatDoor
open Go.RowKit
set_option maxRecDepth 100000
set_option linter.unusedVariables false
set_option linter.unusedSimpArgs false
theorem ptCells_mod : ∀ (l : List Pt) (j : Nat) (u : Value), (ptCells l)[j]? = some u → ∃ p, l[j / 3]? = some p ∧ u = (if j % 3 = 0 then .int .i64 p.t else if j % 3 = 1 then .int .i64 p.v else .int .i64 p.s)
  | [], j, u, h => by simp [ptCells] at h
  | p :: l, 0, u, h => by
    have h : some (Value.int .i64 p.t) = some u := h
    injection h with h
    exact ⟨p, rfl, h.symm⟩
  | p :: l, 1, u, h => by
    have h : some (Value.int .i64 p.v) = some u := h
    injection h with h
    exact ⟨p, rfl, h.symm⟩
  | p :: l, 2, u, h => by
    have h : some (Value.int .i64 p.s) = some u := h
    injection h with h
    exact ⟨p, rfl, h.symm⟩
  | p :: l, j + 3, u, h => by
    have h' : (ptCells l)[j]? = some u := h
    obtain ⟨q, h1, h2⟩ := ptCells_mod l j u h'
    refine ⟨q, ?_, ?_⟩
    · rw [show (j + 3) / 3 = j / 3 + 1 by omega]; exact h1
    · rw [show (j + 3) % 3 = j % 3 by omega]; exact h2
theorem ptCells_one (l : List Pt) : ∀ u ∈ ptCells l, u.oneCell' = true := fun u hu => by
  unfold ptCells at hu
  obtain ⟨p, -, hp⟩ := List.mem_flatMap.1 hu
  simp at hp
  rcases hp with rfl | rfl | rfl <;> rfl
theorem run_append_pts {w : World} {base c : Nat} {v : Value} {l l2 : List Pt} {A : Option Addr} {b2 : Nat} {ty : TypeId} (hown : PtRow w base v l) (hr : PtRow w b2 (.slice A l2.length c) l2) (h63 : l.length + l2.length < 4294967296) (hbase : base ≤ w.heap.size) :
    ∃ v' w', (Builtin.append_ #[31, 31] ty #[v, .slice A l2.length c]).run Tryz.prog w = .ok v' w' ∧ PtRow w' base v' (l ++ l2) ∧ w.grownBy w' v.ownBlock ∧ (v'.ownBlock = v.ownBlock ∨ v'.ownBlock = some w.heap.size) := by
  obtain ⟨i, hi, hz, hs, hb⟩ := info_parts points_info
  rcases A with _ | ad
  · have hm : l2 = [] := by
      cases l2 with
      | nil => rfl
      | cons p l2 =>
        obtain ⟨b, off, h, _⟩ := hr.sl (by simp)
        cases h
    subst hm
    refine ⟨v, w, ?_, by simpa using hown, World.grownBy.refl w _, .inl rfl⟩
    rcases hown.2 with ⟨rfl, h0⟩ | ⟨g, cap, cur, rfl, _, _, hnc, _⟩
    · simp [Builtin.append_, run_underlying Tryz.underlying31, sizeOf, typeInfo, hi, Builtin.lenOf, Builtin.firstCells]
    · simp [Builtin.append_, run_underlying Tryz.underlying31, sizeOf, typeInfo, hi, Builtin.lenOf, Builtin.firstCells, hnc, storeCells]
  · have hcells : ∀ j u, (ptCells l2)[j]? = some u → w.cell? (ad.add j) = some u := by
      intro j u hu
      obtain ⟨p, hp, he⟩ := ptCells_mod l2 j u hu
      have hjl : j / 3 < l2.length := (List.getElem?_eq_some_iff.1 hp).1
      obtain ⟨b, off, h, _, hc⟩ := hr.sl (by omega)
      injection h with h
      subst h
      have hadd : (⟨b, off, none⟩ : Addr).add j = ⟨b, off + j, none⟩ := by unfold Addr.add; split <;> simp_all
      rw [hadd]
      obtain ⟨c0, c1, c2⟩ := hc (j / 3) hjl
      have e : (fun j => l2.getD j (⟨0, 0, 0⟩ : Pt)) (j / 3) = p := by
        show l2.getD (j / 3) _ = p
        rw [List.getD_eq_getElem?_getD, hp]; rfl
      rw [e] at c0 c1 c2
      rcases (show j % 3 = 0 ∨ j % 3 = 1 ∨ j % 3 = 2 by omega) with h3 | h3 | h3
      · rw [show off + j = off + j / 3 * 3 by omega, he, if_pos h3]; exact c0
      · rw [show off + j = off + j / 3 * 3 + 1 by omega, he, if_neg (by omega), if_pos h3]; exact c1
      · rw [show off + j = off + j / 3 * 3 + 2 by omega, he, if_neg (by omega), if_neg (by omega)]; exact c2
    obtain ⟨v', w', h1, h2, h3, _, h4⟩ := run_append_own_at (P := Tryz.prog) w base 31 ty 30 i _ 3 24 Tryz.underlying31 hi hz hs hb rfl (by decide) v l.length (ptCells l) hown ad l2.length c (ptCells l2) (ptCells_length l2) hcells (ptCells_one l2) (by unfold maxLen; omega) (by omega) hbase
    refine ⟨v', w', h1, ?_, h3, h4⟩
    unfold PtRow
    rw [ptCells_append, List.length_append]
    exact h2
/-- .. at an operation under a guard that says yes. -/
theorem wpList_append_pts {w : World} {base c : Nat} {v : Value} {l l2 : List Pt} {A : Option Addr} {ops : Array Oper} {rest : List Oper} {o : Oper} {a : Act} {Q : Exit → Act → World → Prop} (hw : Region.wanted o (yielded ops a.tmps) = true) (s x : Operand)
    (ho : o.op = .call { callee := .builtin .append, args := #[s, x], argTypes := #[31, 31] }) (hs : a.eval s = v) (hx : a.eval x = .slice A l2.length c)
    (hown : PtRow w base v l) (hr : ∃ b2, PtRow w b2 (.slice A l2.length c) l2) (h63 : l.length + l2.length < 4294967296) (hbase : base ≤ w.heap.size)
    (h : ∀ v' w', PtRow w' base v' (l ++ l2) → w.grownBy w' v.ownBlock → (v'.ownBlock = v.ownBlock ∨ v'.ownBlock = some w.heap.size) → wpList Tryz.prog ops Q rest (a.put o.dst v') w') : wpList Tryz.prog ops Q (o :: rest) a w := by
  refine BigFrame.wpList_want hw fun K hK => ?_
  obtain ⟨b2, hr2⟩ := hr
  obtain ⟨v', w', hrun, h2, h3, h4⟩ := run_append_pts (ty := o.type) (c := c) hown hr2 h63 hbase
  unfold Oper.wp execOp
  simp only [ho, resolve, invoke, builtin, Sem.run_bind, Sem.run_pure, Result.andThen_ok, List.map_toArray, List.map_cons, List.map_nil, hs, hx, hrun]
  exact hK _ _ (h v' w' h2 h3 h4)
end Go.Proofs.YtopbbicjbjmdnaaGreatDoor
namespace Go.Proofs.YtopbbicjbjmdnaaGreatDoor
open Go.RowKit Go.Maps
set_option maxRecDepth 100000
set_option linter.unusedVariables false
set_option linter.unusedSimpArgs false
def spNm : Nat → ByteArray := fun _ => ⟨#[97]⟩
def spPf : Nat → Nat → Pt := fun _ _ => ⟨1, 0, 0⟩
def spPn : Nat → Nat := fun _ => 1
theorem sp_v : (namesOk spNm 1 && (decide (0 < 1) && sV spPf spPn 1)) = true := by kernel_rfl
theorem sp_ok : ∀ j i, PtOk (spPf j i) := fun j i => ⟨by unfold I64 spPf; simp, by unfold I64 spPf; simp, by unfold I64 spPf; simp⟩
theorem sp_few : fewN spNm spPn 1 1 < 2500 := by decide
theorem sp_small : Small spNm spPf spPn 1 := few_small sp_ok sp_few
theorem sp_file : (sB spNm spPf spPn 1).2 = 0 ∧ Built spNm spPf spPn 1 ∧ FileIs (sB spNm spPf spPn 1).1 (sO spPf spPn 1) spNm spPf spPn 1 := sB_good sp_small (few_fits sp_ok sp_few) sp_v
theorem sp_f : (sF spNm spPf spPn 1 1).length = 8 := by kernel_rfl
theorem sp_o : (sO spPf spPn 1).length = 37 := by kernel_rfl
theorem sp_l : (sB spNm spPf spPn 1).1.length = 67 := by
  have h := sp_file.2.2.fl
  rw [h, F.sealL_length, sp_f, sp_o]
/-- The one part in two new blocks. -/
theorem sp_at (w : World) : PartsAt ((w.alloc (.cells #[.int .i64 1, .int .i64 0, .int .i64 0] 30)).alloc (.cells #[.string ⟨#[97]⟩, .slice (some ⟨w.heap.size, 0, none⟩) 1 1] 33)) (some ⟨w.heap.size + 1, 0, none⟩) 1 spNm (fun _ => some ⟨w.heap.size, 0, none⟩) spPn (fun _ => 1) spPf := by
  have hs : SlP (w.alloc (.cells #[.int .i64 1, .int .i64 0, .int .i64 0] 30)) (fun q => q < (w.alloc (.cells #[.int .i64 1, .int .i64 0, .int .i64 0] 30)).heap.size) (some ⟨w.heap.size, 0, none⟩) 1 (fun _ => ⟨1, 0, 0⟩) := slp_in (slp_one w 30 ⟨1, 0, 0⟩)
  have := part_one (c := 1) (s := ⟨#[97]⟩) hs (Nat.le_refl _) (by omega) (fun i => sp_ok 0 i) (by show 1 ≤ _; omega)
  rw [show (w.alloc (.cells #[.int .i64 1, .int .i64 0, .int .i64 0] 30)).heap.size = w.heap.size + 1 by simp] at this
  exact this
end Go.Proofs.YtopbbicjbjmdnaaGreatDoor
namespace Go.Proofs.YtopbbicjbjmdnaaGreatDoor
open Go.RowKit Go.Maps
set_option maxRecDepth 100000
set_option linter.unusedVariables false
set_option linter.unusedSimpArgs false
theorem not_f_s (w : World) : (Op.unary .not (.bool false)).run Tryz.prog w = .ok (.bool true) w := by kernel_rfl
theorem not_t_s (w : World) : (Op.unary .not (.bool true)).run Tryz.prog w = .ok (.bool false) w := by kernel_rfl
theorem sptr_ne_s (y : Nat) (w : World) : (binOp .eql 35 (.pointer (some ⟨y, 0, none⟩)) (.pointer none)).run Tryz.prog w = .ok (.bool false) w := by kernel_rfl
/-- The points of a span are those of its two parts. -/
theorem split_low {f : Nat → Pt} {s m t : Int} (hmt : m ≤ t) : ∀ n, (∀ j, j < n → (f j).t < m) → selL f s t n = selL f s m n ∧ selL f m t n = []
  | 0, _ => ⟨rfl, rfl⟩
  | n + 1, h => by
    obtain ⟨h1, h2⟩ := split_low (s := s) hmt n (fun j hj => h j (by omega))
    have hn := h n (by omega)
    refine ⟨?_, ?_⟩
    · show (if inS s t (f n) = true then selL f s t n ++ [f n] else selL f s t n) = (if inS s m (f n) = true then selL f s m n ++ [f n] else selL f s m n)
      have e : inS s t (f n) = inS s m (f n) := by
        unfold inS
        rw [show decide ((f n).t < t) = true by simp; omega, show decide ((f n).t < m) = true by simp; omega]
      rw [e, h1]
    · show (if inS m t (f n) = true then selL f m t n ++ [f n] else selL f m t n) = []
      rw [if_neg (by unfold inS; simp; omega)]
      exact h2
theorem split_at {f : Nat → Pt} {s m t : Int} (hsm : s ≤ m) (hmt : m ≤ t) : ∀ n, (∀ i j, i < j → j < n → (f i).t < (f j).t) → selL f s t n = selL f s m n ++ selL f m t n
  | 0, _ => rfl
  | n + 1, h => by
    by_cases hn : (f n).t < m
    · obtain ⟨h1, h2⟩ := split_low (f := f) (s := s) hmt (n + 1) (fun j hj => by
        rcases Nat.lt_or_ge j n with h3 | h3
        · have := h j n h3 (by omega); omega
        · rw [show j = n by omega]; exact hn)
      rw [h1, h2, List.append_nil]
    · have ih := split_at hsm hmt n (fun i j h1 h2 => h i j h1 (by omega))
      show (if inS s t (f n) = true then selL f s t n ++ [f n] else selL f s t n) = (if inS s m (f n) = true then selL f s m n ++ [f n] else selL f s m n) ++ (if inS m t (f n) = true then selL f m t n ++ [f n] else selL f m t n)
      rw [if_neg (show ¬ inS s m (f n) = true by unfold inS; simp; omega)]
      have e : inS s t (f n) = inS m t (f n) := by
        unfold inS
        rw [show decide (s ≤ (f n).t) = true by simp; omega, show decide (m ≤ (f n).t) = true by simp; omega]
      rw [e, ih]
      split
      · rw [List.append_assoc]
      · rfl
theorem psum_pos {nm : Nat → ByteArray} {pf : Nat → Nat → Pt} {pn : Nat → Nat} {k : Nat} (h : Built nm pf pn k) : 0 < psum pn k ∧ psum pn k ≤ 4194304 := by
  obtain ⟨k1, rfl⟩ : ∃ k1, k = k1 + 1 := ⟨k - 1, by have := h.k0; omega⟩
  have h1 := h.pos (i := k1) (by omega)
  have h2 := psum_le (pn := pn) (c := 4096) (k1 + 1) h.pb
  have h3 : (k1 + 1) * 4096 ≤ 1024 * 4096 := Nat.mul_le_mul_right _ h.k1
  refine ⟨?_, by omega⟩
  show 0 < psum pn k1 + pn k1
  omega
/-- Rows of points that are one are the same. -/
theorem same_rows_s {A B : Option Addr} {c d : Nat} {w : World} {b1 b2 : Nat} {l : List Pt} (h1 : PtRow w b1 (.slice A l.length c) l) (h2 : PtRow w b2 (.slice B l.length d) l) :
    Calls Tryz.prog 11 #[.slice A l.length c, .slice B l.length d] w (BoolPost true w) := by
  have e : sameL (fun j => l.getD j ⟨0, 0, 0⟩) (fun j => l.getD j ⟨0, 0, 0⟩) l.length l.length = true := sameL_of rfl fun _ _ => rfl
  have hc := V.own_cap (show w.ownsRow b1 30 3 (.slice A l.length c) l.length (ptCells l) from h1)
  have := same_any A B l.length l.length c d _ _ _ _ w h1.sl h2.sl (by omega) (by omega)
  rw [e] at this
  exact this
set_option maxHeartbeats 1000000 in
theorem segmentSplits_walk (a : Option Addr) (k c : Nat) (nm : Nat → ByteArray) (pa : Nat → Option Addr) (pn pc : Nat → Nat) (pf : Nat → Nat → Pt) (s t m : Int) (w : World) (h : PartsAt w a k nm pa pn pc pf) (wm : (Lit.int .i64 m).wf = true) (hr : Reach nm pn k) (hv : V.HErr w) :
    Calls Tryz.prog 6 #[.slice a k c, .agg #[.int .i64 s, .int .i64 t], .int .i64 m] w fun e w' => e = .returned (.bool true) ∧ Below w.heap.size w w' := by
  have HV := Lib.hid hv
  have H0 := Lib.hid (And.intro h hr)
  clear h hr hv wm
  go_enter Tryz.func6, Tryz.ntmps6
  go_upto_region 1 with (fail)
  obtain ⟨sp, hsp⟩ : ∃ sp, sp = w.heap.size := ⟨_, rfl⟩
  rw [← hsp]
  have hal : Below w.heap.size w (w.alloc (.cells #[.int .i64 s, .int .i64 t] 42)) := (Below.refl _ _).alloc (Nat.le_refl _) _
  refine wp_gen (fun wx => Below w.heap.size w wx ∧ Blk wx sp 42 #[.int .i64 s, .int .i64 t]) ⟨hal, by rw [hsp]; exact Blk.fresh _ _ _⟩ ?_
  rintro w0 ⟨hb0, hspb⟩
  have HS := Lib.hid (And.intro hb0 hspb)
  clear hb0 hspb hal hsp
  have nf := not_f_s
  have nt := not_t_s
  have qn := sptr_ne_s
  go_wp2_with fail
  refine (few_any w0 a k c nm pa pn pc pf (H0.out.1.below HS.out.1) H0.out.2).mono ?_
  rintro e w1 ⟨rfl, hb1⟩
  cases hf : decide (fewN nm pn k k < 2500) with
  | false =>
    have HB := Lib.hid (HS.out.1.trans (hb1.mono HS.out.1.size))
    clear hf hb1
    go_wp2_with fail
    go_ret
    exact ⟨rfl, HB.out⟩
  | true =>
    have hfew := of_decide_eq_true hf
    have hs := few_small (pf := pf) H0.out.1.ok hfew
    have hfit := few_fits (pf := pf) H0.out.1.ok hfew
    have hw1 := HS.out.1.trans (hb1.mono HS.out.1.size)
    have HB := Lib.hid (And.intro hw1 (And.intro (HS.out.2.below hb1 HS.out.2.lt) (H0.out.1.below hw1)))
    have HSm := Lib.hid (And.intro hs hfit)
    clear hf hb1 hs hfit hw1 hfew
    go_wp2_with fail
    refine (build_any w1 a k c nm pa pn pc pf HB.out.2.2 HSm.out.1).mono ?_
    rintro e w2 ⟨v2, rfl, ho2, hb2⟩
    rcases sB_cases HSm.out.1 HSm.out.2 with hno | ⟨hg0, hBt, hFl⟩
    · rw [hno] at ho2 ⊢
      obtain ⟨A2, c2, hv2, -, -⟩ := own_form ho2
      subst hv2
      have H2 := Lib.hid (And.intro (HB.out.1.trans (hb2.mono HB.out.1.size)) (HB.out.2.1.below hb2 HB.out.2.1.lt))
      clear ho2 hb2 hno
      go_wp2_with fail
      have hal : Below w2.heap.size w2 ((w2.alloc (.cells #[.int .i64 1, .int .i64 0, .int .i64 0] 30)).alloc (.cells #[.string ⟨#[97]⟩, .slice (some ⟨w2.heap.size, 0, none⟩) 1 1] 33)) := ((Below.refl _ _).alloc (Nat.le_refl _) _).alloc (by simp) _
      have hP := build_any _ _ 1 1 spNm _ spPn _ spPf (sp_at w2) sp_small
      have HAL := Lib.hid hal
      clear hal
      refine hP.mono ?_
      clear hP
      rintro e w6 ⟨v6, rfl, ho6, hb6⟩
      obtain ⟨hg0, hBt, hFl⟩ := sp_file
      rw [hg0]
      obtain ⟨L, hL⟩ : ∃ L, L = (sB spNm spPf spPn 1).1 := ⟨_, rfl⟩
      rw [← hL] at ho6 hFl
      obtain ⟨ll, hll⟩ : ∃ ll, ll = L.length := ⟨_, rfl⟩
      rw [← hll] at ho6
      obtain ⟨A2, c2, hv2, -, -⟩ := own_form ho6
      subst hv2
      have hcap2 := V.own_cap ho6
      have hb26 := HAL.out.trans (hb6.mono HAL.out.size)
      have hw2 := H2.out.1.trans (hb26.mono H2.out.1.size)
      have hopen := open_ok w6 A2 ll c2 L _ spNm spPf spPn 1 hFl hBt hll.symm (V.ow_sl ho6) hcap2.1 hcap2.2 (HV.out.below hw2)
      have hO20 : (sO spPf spPn 1).length ≤ 1048576 := by have h1 := hFl.fl; have h2 := hFl.len; omega
      have H2' := Lib.hid (And.intro hw2 (And.intro (H2.out.2.below hb26 H2.out.2.lt) (And.intro hBt (And.intro hO20 (And.intro sp_ok hopen)))))
      clear ho6 hb6 hcap2 hw2 hopen hBt hFl hL hll hg0 hO20 hb26 H2 HAL
      obtain ⟨k1, hk1⟩ : ∃ k1, k1 = 1 := ⟨_, rfl⟩
      have H2 := H2'
      clear H2' hk1 k1
      go_wp2_with fail
      refine H2.out.2.2.2.2.2.mono ?_
      rintro e w3 ⟨p, M, o, Ab, cb, cn, VS, rfl, hseg, hb3⟩
      have H3 := Lib.hid (And.intro hseg (And.intro (H2.out.1.trans (hb3.mono H2.out.1.size)) (H2.out.2.1.below hb3 H2.out.2.1.lt)))
      clear hseg hb3
      obtain ⟨ps, hps⟩ : ∃ ps, ps = psum spPn 1 := ⟨_, rfl⟩
      have hpp := psum_pos H2.out.2.2.1
      have hcnt := scount_any w3 p _ spNm spPf spPn 1 M o Ab cb cn VS H3.out.1 H2.out.2.2.1
      rw [← hps] at hpp hcnt
      have HC := Lib.hid hcnt
      clear hcnt hps
      go_wp2_with fail
      refine HC.out.mono ?_
      rintro e w4 ⟨rfl, hb4⟩
      have d0 : ((ps : Int) == 0) = false := by simp; omega
      have H4 := Lib.hid (And.intro (H3.out.1.below hb4) (And.intro (H3.out.2.1.trans (hb4.mono H3.out.2.1.size)) (H3.out.2.2.below hb4 H3.out.2.2.lt)))
      clear hb4 HC
      have u0 := H4.out.2.2.cell 0
      have u1 := H4.out.2.2.cell 1
      by_cases k1 : m < s
      · have d1 : decide (m < s) = true := by simp; omega
        go_wp2_with fail
        go_ret
        exact ⟨rfl, H4.out.2.1⟩
      · have d1 : decide (m < s) = false := by simp; omega
        by_cases k2 : t < m
        · have d2 : decide (t < m) = true := by simp; omega
          go_wp2_with fail
          go_ret
          exact ⟨rfl, H4.out.2.1⟩
        · have d2 : decide (t < m) = false := by simp; omega
          have HK := Lib.hid (And.intro (show s ≤ m by omega) (show m ≤ t by omega))
          clear k1 k2
          go_wp2_with fail
          refine (snames_any w4 p _ spNm spPf spPn 1 M o Ab cb cn VS H4.out.1 H2.out.2.2.1.k1).mono ?_
          rintro e w5 ⟨A5, c5, rfl, hkc, hb5, hs5⟩
          obtain ⟨bn, on, hA5, hbn, hcn⟩ := hs5 H2.out.2.2.1.k0
          subst hA5
          have hkk := H2.out.2.2.1.k1
          have H5 := Lib.hid (And.intro (H4.out.1.below hb5) (And.intro (H4.out.2.1.trans (hb5.mono H4.out.2.1.size)) (And.intro (H4.out.2.2.below hb5 H4.out.2.2.lt) (And.intro hbn hcn))))
          clear hb5 hs5 hbn hcn u0 u1 d1 d2
          go_wp2_with fail
          go_loopw [12] (fun iv wr => ∃ i, i ≤ 1 ∧ iv = .int .i64 (i : Nat) ∧ Below w5.heap.size w5 wr) (fun iv _ => 1 - (intOf iv).toNat)
          case atStart => exact ⟨0, by omega, rfl, Below.refl _ _⟩
          case round =>
            obtain ⟨i, hi, rfl, hb⟩ := hrel
            by_cases hlt : i < 1
            · have hik : (i : Int) < (1 : Int) := by omega
              obtain ⟨x, hx⟩ : ∃ x, x = spNm i := ⟨_, rfl⟩
              have hce : ∀ wx, Below w5.heap.size w5 wx → wx.cell? ⟨bn, on + i, none⟩ = some (.string x) ∧ wx.cell? ⟨sp, 0, none⟩ = some (.int .i64 s) ∧ wx.cell? ⟨sp, 1, none⟩ = some (.int .i64 t) := fun wx hx' => by
                rw [hx]
                exact ⟨(hx'.cell (by exact H5.out.2.2.2.1)).trans (H5.out.2.2.2.2 i hlt), (hx'.cell (by exact H5.out.2.2.1.lt)).trans (H5.out.2.2.1.cell 0), (hx'.cell (by exact H5.out.2.2.1.lt)).trans (H5.out.2.2.1.cell 1)⟩
              obtain ⟨n, hn⟩ : ∃ n, n = spPn i := ⟨_, rfl⟩
              obtain ⟨f, hfe⟩ : ∃ f, f = spPf i := ⟨_, rfl⟩
              have hn4 : n ≤ 4096 := by rw [hn]; exact H2.out.2.2.1.pb i hlt
              have hgp : ∀ wx, Below w5.heap.size w5 wx → ∀ a' b' : Int, Calls Tryz.prog 10 #[.pointer (some ⟨p, 0, none⟩), .string x, .int .i64 a', .int .i64 b'] wx (GoodPts wx (selL f a' b' n)) := fun wx hx' a' b' => by
                rw [hx, hn, hfe]
                exact gpoints_any wx p spNm spPf spPn 1 M o Ab cb cn VS (H5.out.1.below hx') H2.out.2.2.1 H2.out.2.2.2.1 H2.out.2.2.2.2.1 i hlt a' b' (HV.out.below (H5.out.2.1.trans (hx'.mono H5.out.2.1.size)))
              have hspl : selL f s t n = selL f s m n ++ selL f m t n := split_at HK.out.1 HK.out.2 n (fun i' j' h1 h2 => by rw [hfe] at *; rw [hn] at h2; exact part_lt (H2.out.2.2.1.bv hlt) h1 h2)
              have HI := Lib.hid (And.intro hce (And.intro hgp (And.intro hspl hb)))
              clear hce hgp hspl hx hn hfe
              go_upto_region 15 with (fail)
              have hS := HI.out.2.2.2.drew
              have hS : (Below w5.heap.size w5) (wr.drew) := hS
              refine reg_start (Below w5.heap.size w5) (by kernel_rfl) hS ?_
              generalize wr.drew = wd at hS ⊢
              clear hb
              have HD := Lib.hid hS
              refine reg_take (i := 0) (v := ?_) rfl (by kernel_rfl) (by kernel_rfl) (by kernel_rfl) (fun _ _ _ h => h) (Or.inl ⟨by kernel_rfl, ?_⟩) hS ?_
              rotate_left
              · (intro w' hSw; have u0 := (HI.out.1 w' hSw).1; have u2 := (HI.out.1 w' hSw).2.1; have u3 := (HI.out.1 w' hSw).2.2; go_simp <;> with_reducible rfl)
              try simp only [List.getElem_toArray, List.getElem_cons_succ, List.getElem_cons_zero, Act.put, List.setIfInBounds_toArray, List.set_cons_zero, List.set_cons_succ]
              refine reg_take (i := 1) (v := ?_) rfl (by kernel_rfl) (by kernel_rfl) (by kernel_rfl) (fun _ _ _ h => h) (Or.inl ⟨by kernel_rfl, ?_⟩) hS ?_
              rotate_left
              · (intro w' hSw; have u0 := (HI.out.1 w' hSw).1; have u2 := (HI.out.1 w' hSw).2.1; have u3 := (HI.out.1 w' hSw).2.2; go_simp <;> with_reducible rfl)
              try simp only [List.getElem_toArray, List.getElem_cons_succ, List.getElem_cons_zero, Act.put, List.setIfInBounds_toArray, List.set_cons_zero, List.set_cons_succ]
              refine reg_take (i := 2) (v := ?_) rfl (by kernel_rfl) (by kernel_rfl) (by kernel_rfl) (fun _ _ _ h => h) (Or.inl ⟨by kernel_rfl, ?_⟩) hS ?_
              rotate_left
              · (intro w' hSw; have u0 := (HI.out.1 w' hSw).1; have u2 := (HI.out.1 w' hSw).2.1; have u3 := (HI.out.1 w' hSw).2.2; go_simp <;> with_reducible rfl)
              try simp only [List.getElem_toArray, List.getElem_cons_succ, List.getElem_cons_zero, Act.put, List.setIfInBounds_toArray, List.set_cons_zero, List.set_cons_succ]
              refine reg_take (i := 3) (v := ?_) rfl (by kernel_rfl) (by kernel_rfl) (by kernel_rfl) (fun _ _ _ h => h) (Or.inl ⟨by kernel_rfl, ?_⟩) hS ?_
              rotate_left
              · (intro w' hSw; have u0 := (HI.out.1 w' hSw).1; have u2 := (HI.out.1 w' hSw).2.1; have u3 := (HI.out.1 w' hSw).2.2; go_simp <;> with_reducible rfl)
              try simp only [List.getElem_toArray, List.getElem_cons_succ, List.getElem_cons_zero, Act.put, List.setIfInBounds_toArray, List.set_cons_zero, List.set_cons_succ]
              refine reg_take (i := 4) (v := ?_) rfl (by kernel_rfl) (by kernel_rfl) (by kernel_rfl) (fun _ _ _ h => h) (Or.inl ⟨by kernel_rfl, ?_⟩) hS ?_
              rotate_left
              · (intro w' hSw; have u0 := (HI.out.1 w' hSw).1; have u2 := (HI.out.1 w' hSw).2.1; have u3 := (HI.out.1 w' hSw).2.2; go_simp <;> with_reducible rfl)
              try simp only [List.getElem_toArray, List.getElem_cons_succ, List.getElem_cons_zero, Act.put, List.setIfInBounds_toArray, List.set_cons_zero, List.set_cons_succ]
              refine reg_take (i := 5) (v := ?_) rfl (by kernel_rfl) (by kernel_rfl) (by kernel_rfl) (fun _ _ _ h => h) (Or.inl ⟨by kernel_rfl, ?_⟩) hS ?_
              rotate_left
              · (intro w' hSw; have u0 := (HI.out.1 w' hSw).1; have u2 := (HI.out.1 w' hSw).2.1; have u3 := (HI.out.1 w' hSw).2.2; go_simp <;> with_reducible rfl)
              try simp only [List.getElem_toArray, List.getElem_cons_succ, List.getElem_cons_zero, Act.put, List.setIfInBounds_toArray, List.set_cons_zero, List.set_cons_succ]
              refine reg_take (i := 6) (v := ?_) rfl (by kernel_rfl) (by kernel_rfl) (by kernel_rfl) (fun _ _ _ h => h) (Or.inl ⟨by kernel_rfl, ?_⟩) hS ?_
              rotate_left
              · (intro w' hSw; have u0 := (HI.out.1 w' hSw).1; have u2 := (HI.out.1 w' hSw).2.1; have u3 := (HI.out.1 w' hSw).2.2; go_simp <;> with_reducible rfl)
              try simp only [List.getElem_toArray, List.getElem_cons_succ, List.getElem_cons_zero, Act.put, List.setIfInBounds_toArray, List.set_cons_zero, List.set_cons_succ]
              refine reg_take (i := 7) (v := ?_) rfl (by kernel_rfl) (by kernel_rfl) (by kernel_rfl) (fun _ _ _ h => h) (Or.inl ⟨by kernel_rfl, ?_⟩) hS ?_
              rotate_left
              · (intro w' hSw; have u0 := (HI.out.1 w' hSw).1; have u2 := (HI.out.1 w' hSw).2.1; have u3 := (HI.out.1 w' hSw).2.2; go_simp <;> with_reducible rfl)
              try simp only [List.getElem_toArray, List.getElem_cons_succ, List.getElem_cons_zero, Act.put, List.setIfInBounds_toArray, List.set_cons_zero, List.set_cons_succ]
              refine reg_take (i := 8) (v := ?_) rfl (by kernel_rfl) (by kernel_rfl) (by kernel_rfl) (fun _ _ _ h => h) (Or.inl ⟨by kernel_rfl, ?_⟩) hS ?_
              rotate_left
              · (intro w' hSw; have u0 := (HI.out.1 w' hSw).1; have u2 := (HI.out.1 w' hSw).2.1; have u3 := (HI.out.1 w' hSw).2.2; go_simp <;> with_reducible rfl)
              try simp only [List.getElem_toArray, List.getElem_cons_succ, List.getElem_cons_zero, Act.put, List.setIfInBounds_toArray, List.set_cons_zero, List.set_cons_succ]
              refine reg_call (i := 9) rfl (by kernel_rfl) (fun K hK => ?_)
              have HK := Lib.hid hK
              clear hK
              go_simp
              refine (HI.out.2.1 wd HD.out s t).mono ?_
              rintro e w6 ⟨hb6, v6, rfl, hr6⟩
              obtain ⟨A6, c6, hv6, -⟩ := hr6.form
              subst hv6
              obtain ⟨lx, hlx⟩ : ∃ lx, lx = selL f s t n := ⟨_, rfl⟩
              have hxl : lx.length ≤ n := by rw [hlx]; exact selL_len _ _ _ _
              rw [← hlx] at hr6 ⊢
              have H6 := Lib.hid (And.intro hr6 (And.intro (HD.out.trans (hb6.mono HD.out.size)) hlx))
              clear hr6 hb6 hlx
              go_wp2_with fail
              refine HK.out.to (Below w5.heap.size w5) (fun _ h => h) (H6.out.2.1) ?_
              clear HK hS
              have hS : (Below w5.heap.size w5) (w6) := H6.out.2.1
              try simp only [List.getElem_toArray, List.getElem_cons_succ, List.getElem_cons_zero, Act.put, List.setIfInBounds_toArray, List.set_cons_zero, List.set_cons_succ]
              refine reg_take (i := 10) (v := ?_) rfl (by kernel_rfl) (by kernel_rfl) (by kernel_rfl) (fun _ _ _ h => h) (Or.inl ⟨by kernel_rfl, ?_⟩) hS ?_
              rotate_left
              · (intro w' hSw; go_simp <;> with_reducible rfl)
              try simp only [List.getElem_toArray, List.getElem_cons_succ, List.getElem_cons_zero, Act.put, List.setIfInBounds_toArray, List.set_cons_zero, List.set_cons_succ]
              refine reg_take (i := 11) (v := ?_) rfl (by kernel_rfl) (by kernel_rfl) (by kernel_rfl) (fun _ _ _ h => h) (Or.inl ⟨by kernel_rfl, ?_⟩) hS ?_
              rotate_left
              · (intro w' hSw; go_simp <;> with_reducible rfl)
              try simp only [List.getElem_toArray, List.getElem_cons_succ, List.getElem_cons_zero, Act.put, List.setIfInBounds_toArray, List.set_cons_zero, List.set_cons_succ]
              refine reg_take (i := 12) (v := ?_) rfl (by kernel_rfl) (by kernel_rfl) (by kernel_rfl) (fun _ _ _ h => h) (Or.inl ⟨by kernel_rfl, ?_⟩) hS ?_
              rotate_left
              · (intro w' hSw; go_simp <;> with_reducible rfl)
              try simp only [List.getElem_toArray, List.getElem_cons_succ, List.getElem_cons_zero, Act.put, List.setIfInBounds_toArray, List.set_cons_zero, List.set_cons_succ]
              refine reg_take (i := 13) (v := ?_) rfl (by kernel_rfl) (by kernel_rfl) (by kernel_rfl) (fun _ _ _ h => h) (Or.inl ⟨by kernel_rfl, ?_⟩) hS ?_
              rotate_left
              · (intro w' hSw; go_simp <;> with_reducible rfl)
              try simp only [List.getElem_toArray, List.getElem_cons_succ, List.getElem_cons_zero, Act.put, List.setIfInBounds_toArray, List.set_cons_zero, List.set_cons_succ]
              refine reg_take (i := 14) (v := ?_) rfl (by kernel_rfl) (by kernel_rfl) (by kernel_rfl) (fun _ _ _ h => h) (Or.inl ⟨by kernel_rfl, ?_⟩) hS ?_
              rotate_left
              · (intro w' hSw; go_simp <;> with_reducible rfl)
              try simp only [List.getElem_toArray, List.getElem_cons_succ, List.getElem_cons_zero, Act.put, List.setIfInBounds_toArray, List.set_cons_zero, List.set_cons_succ]
              refine wpAnyH_done (by kernel_rfl) ?_ _
              try simp only [List.getElem_toArray, List.getElem_cons_succ, List.getElem_cons_zero]
              try simp only [List.getElem_toArray, List.getElem_cons_succ, List.getElem_cons_zero, Act.put, List.setIfInBounds_toArray, List.set_cons_zero, List.set_cons_succ]
              clear hS HD
              go_upto_region 16 with (fail)
              have hS := H6.out.2.1.drew
              have hS : (Below w5.heap.size w5) (w6.drew) := hS
              refine reg_start (Below w5.heap.size w5) (by kernel_rfl) hS ?_
              have e6 : Below w6.heap.size w6 w6.drew := (Below.refl _ _).drew
              generalize w6.drew = wd at hS e6 ⊢
              have HD := Lib.hid (And.intro hS e6)
              clear e6
              refine reg_take (i := 0) (v := ?_) rfl (by kernel_rfl) (by kernel_rfl) (by kernel_rfl) (fun _ _ _ h => h) (Or.inl ⟨by kernel_rfl, ?_⟩) hS ?_
              rotate_left
              · (intro w' hSw; have u0 := (HI.out.1 w' hSw).1; have u2 := (HI.out.1 w' hSw).2.1; have u3 := (HI.out.1 w' hSw).2.2; go_simp <;> with_reducible rfl)
              try simp only [List.getElem_toArray, List.getElem_cons_succ, List.getElem_cons_zero, Act.put, List.setIfInBounds_toArray, List.set_cons_zero, List.set_cons_succ]
              refine reg_take (i := 1) (v := ?_) rfl (by kernel_rfl) (by kernel_rfl) (by kernel_rfl) (fun _ _ _ h => h) (Or.inl ⟨by kernel_rfl, ?_⟩) hS ?_
              rotate_left
              · (intro w' hSw; have u0 := (HI.out.1 w' hSw).1; have u2 := (HI.out.1 w' hSw).2.1; have u3 := (HI.out.1 w' hSw).2.2; go_simp <;> with_reducible rfl)
              try simp only [List.getElem_toArray, List.getElem_cons_succ, List.getElem_cons_zero, Act.put, List.setIfInBounds_toArray, List.set_cons_zero, List.set_cons_succ]
              refine reg_take (i := 2) (v := ?_) rfl (by kernel_rfl) (by kernel_rfl) (by kernel_rfl) (fun _ _ _ h => h) (Or.inl ⟨by kernel_rfl, ?_⟩) hS ?_
              rotate_left
              · (intro w' hSw; have u0 := (HI.out.1 w' hSw).1; have u2 := (HI.out.1 w' hSw).2.1; have u3 := (HI.out.1 w' hSw).2.2; go_simp <;> with_reducible rfl)
              try simp only [List.getElem_toArray, List.getElem_cons_succ, List.getElem_cons_zero, Act.put, List.setIfInBounds_toArray, List.set_cons_zero, List.set_cons_succ]
              refine reg_take (i := 3) (v := ?_) rfl (by kernel_rfl) (by kernel_rfl) (by kernel_rfl) (fun _ _ _ h => h) (Or.inl ⟨by kernel_rfl, ?_⟩) hS ?_
              rotate_left
              · (intro w' hSw; have u0 := (HI.out.1 w' hSw).1; have u2 := (HI.out.1 w' hSw).2.1; have u3 := (HI.out.1 w' hSw).2.2; go_simp <;> with_reducible rfl)
              try simp only [List.getElem_toArray, List.getElem_cons_succ, List.getElem_cons_zero, Act.put, List.setIfInBounds_toArray, List.set_cons_zero, List.set_cons_succ]
              refine reg_take (i := 4) (v := ?_) rfl (by kernel_rfl) (by kernel_rfl) (by kernel_rfl) (fun _ _ _ h => h) (Or.inl ⟨by kernel_rfl, ?_⟩) hS ?_
              rotate_left
              · (intro w' hSw; have u0 := (HI.out.1 w' hSw).1; have u2 := (HI.out.1 w' hSw).2.1; have u3 := (HI.out.1 w' hSw).2.2; go_simp <;> with_reducible rfl)
              try simp only [List.getElem_toArray, List.getElem_cons_succ, List.getElem_cons_zero, Act.put, List.setIfInBounds_toArray, List.set_cons_zero, List.set_cons_succ]
              refine reg_take (i := 5) (v := ?_) rfl (by kernel_rfl) (by kernel_rfl) (by kernel_rfl) (fun _ _ _ h => h) (Or.inl ⟨by kernel_rfl, ?_⟩) hS ?_
              rotate_left
              · (intro w' hSw; have u0 := (HI.out.1 w' hSw).1; have u2 := (HI.out.1 w' hSw).2.1; have u3 := (HI.out.1 w' hSw).2.2; go_simp <;> with_reducible rfl)
              try simp only [List.getElem_toArray, List.getElem_cons_succ, List.getElem_cons_zero, Act.put, List.setIfInBounds_toArray, List.set_cons_zero, List.set_cons_succ]
              refine reg_take (i := 6) (v := ?_) rfl (by kernel_rfl) (by kernel_rfl) (by kernel_rfl) (fun _ _ _ h => h) (Or.inl ⟨by kernel_rfl, ?_⟩) hS ?_
              rotate_left
              · (intro w' hSw; have u0 := (HI.out.1 w' hSw).1; have u2 := (HI.out.1 w' hSw).2.1; have u3 := (HI.out.1 w' hSw).2.2; go_simp <;> with_reducible rfl)
              try simp only [List.getElem_toArray, List.getElem_cons_succ, List.getElem_cons_zero, Act.put, List.setIfInBounds_toArray, List.set_cons_zero, List.set_cons_succ]
              refine reg_take (i := 7) (v := ?_) rfl (by kernel_rfl) (by kernel_rfl) (by kernel_rfl) (fun _ _ _ h => h) (Or.inl ⟨by kernel_rfl, ?_⟩) hS ?_
              rotate_left
              · (intro w' hSw; have u0 := (HI.out.1 w' hSw).1; have u2 := (HI.out.1 w' hSw).2.1; have u3 := (HI.out.1 w' hSw).2.2; go_simp <;> with_reducible rfl)
              try simp only [List.getElem_toArray, List.getElem_cons_succ, List.getElem_cons_zero, Act.put, List.setIfInBounds_toArray, List.set_cons_zero, List.set_cons_succ]
              refine reg_call (i := 8) rfl (by kernel_rfl) (fun K hK => ?_)
              have HK := Lib.hid hK
              clear hK
              go_simp
              refine (HI.out.2.1 wd HD.out.1 s m).mono ?_
              rintro e w7 ⟨hb7, v7, rfl, hr7⟩
              obtain ⟨A7, c7, hv7, -⟩ := hr7.form
              subst hv7
              obtain ⟨ly, hly⟩ : ∃ ly, ly = selL f s m n := ⟨_, rfl⟩
              have hyl : ly.length ≤ n := by rw [hly]; exact selL_len _ _ _ _
              rw [← hly] at hr7 ⊢
              have h67 : Below w6.heap.size w6 w7 := HD.out.2.trans (hb7.mono HD.out.2.size)
              have H7 := Lib.hid (And.intro hr7 (And.intro (H6.out.2.1.trans (h67.mono H6.out.2.1.size)) (And.intro hly (H6.out.1.below h67))))
              clear hr7 hb7 hly h67
              go_wp2_with fail
              refine HK.out.to (Below w5.heap.size w5) (fun _ h => h) (H7.out.2.1) ?_
              clear HK hS
              have hS : (Below w5.heap.size w5) (w7) := H7.out.2.1
              try simp only [List.getElem_toArray, List.getElem_cons_succ, List.getElem_cons_zero, Act.put, List.setIfInBounds_toArray, List.set_cons_zero, List.set_cons_succ]
              refine reg_take (i := 9) (v := ?_) rfl (by kernel_rfl) (by kernel_rfl) (by kernel_rfl) (fun _ _ _ h => h) (Or.inl ⟨by kernel_rfl, ?_⟩) hS ?_
              rotate_left
              · (intro w' hSw; go_simp <;> with_reducible rfl)
              try simp only [List.getElem_toArray, List.getElem_cons_succ, List.getElem_cons_zero, Act.put, List.setIfInBounds_toArray, List.set_cons_zero, List.set_cons_succ]
              refine reg_take (i := 10) (v := ?_) rfl (by kernel_rfl) (by kernel_rfl) (by kernel_rfl) (fun _ _ _ h => h) (Or.inl ⟨by kernel_rfl, ?_⟩) hS ?_
              rotate_left
              · (intro w' hSw; go_simp <;> with_reducible rfl)
              try simp only [List.getElem_toArray, List.getElem_cons_succ, List.getElem_cons_zero, Act.put, List.setIfInBounds_toArray, List.set_cons_zero, List.set_cons_succ]
              refine reg_take (i := 11) (v := ?_) rfl (by kernel_rfl) (by kernel_rfl) (by kernel_rfl) (fun _ _ _ h => h) (Or.inl ⟨by kernel_rfl, ?_⟩) hS ?_
              rotate_left
              · (intro w' hSw; go_simp <;> with_reducible rfl)
              try simp only [List.getElem_toArray, List.getElem_cons_succ, List.getElem_cons_zero, Act.put, List.setIfInBounds_toArray, List.set_cons_zero, List.set_cons_succ]
              refine reg_take (i := 12) (v := ?_) rfl (by kernel_rfl) (by kernel_rfl) (by kernel_rfl) (fun _ _ _ h => h) (Or.inl ⟨by kernel_rfl, ?_⟩) hS ?_
              rotate_left
              · (intro w' hSw; go_simp <;> with_reducible rfl)
              try simp only [List.getElem_toArray, List.getElem_cons_succ, List.getElem_cons_zero, Act.put, List.setIfInBounds_toArray, List.set_cons_zero, List.set_cons_succ]
              refine reg_take (i := 13) (v := ?_) rfl (by kernel_rfl) (by kernel_rfl) (by kernel_rfl) (fun _ _ _ h => h) (Or.inl ⟨by kernel_rfl, ?_⟩) hS ?_
              rotate_left
              · (intro w' hSw; go_simp <;> with_reducible rfl)
              try simp only [List.getElem_toArray, List.getElem_cons_succ, List.getElem_cons_zero, Act.put, List.setIfInBounds_toArray, List.set_cons_zero, List.set_cons_succ]
              refine wpAnyH_done (by kernel_rfl) ?_ _
              try simp only [List.getElem_toArray, List.getElem_cons_succ, List.getElem_cons_zero]
              try simp only [List.getElem_toArray, List.getElem_cons_succ, List.getElem_cons_zero, Act.put, List.setIfInBounds_toArray, List.set_cons_zero, List.set_cons_succ]
              clear hS HD
              go_upto_region 17 with (fail)
              have hS := H7.out.2.1.drew
              have hS : (Below w5.heap.size w5) (w7.drew) := hS
              refine reg_start (Below w5.heap.size w5) (by kernel_rfl) hS ?_
              have e7 : Below w7.heap.size w7 w7.drew := (Below.refl _ _).drew
              generalize w7.drew = wd at hS e7 ⊢
              have HD := Lib.hid (And.intro hS e7)
              clear e7
              refine reg_take (i := 0) (v := ?_) rfl (by kernel_rfl) (by kernel_rfl) (by kernel_rfl) (fun _ _ _ h => h) (Or.inl ⟨by kernel_rfl, ?_⟩) hS ?_
              rotate_left
              · (intro w' hSw; have u0 := (HI.out.1 w' hSw).1; have u2 := (HI.out.1 w' hSw).2.1; have u3 := (HI.out.1 w' hSw).2.2; go_simp <;> with_reducible rfl)
              try simp only [List.getElem_toArray, List.getElem_cons_succ, List.getElem_cons_zero, Act.put, List.setIfInBounds_toArray, List.set_cons_zero, List.set_cons_succ]
              refine reg_take (i := 1) (v := ?_) rfl (by kernel_rfl) (by kernel_rfl) (by kernel_rfl) (fun _ _ _ h => h) (Or.inl ⟨by kernel_rfl, ?_⟩) hS ?_
              rotate_left
              · (intro w' hSw; have u0 := (HI.out.1 w' hSw).1; have u2 := (HI.out.1 w' hSw).2.1; have u3 := (HI.out.1 w' hSw).2.2; go_simp <;> with_reducible rfl)
              try simp only [List.getElem_toArray, List.getElem_cons_succ, List.getElem_cons_zero, Act.put, List.setIfInBounds_toArray, List.set_cons_zero, List.set_cons_succ]
              refine reg_take (i := 2) (v := ?_) rfl (by kernel_rfl) (by kernel_rfl) (by kernel_rfl) (fun _ _ _ h => h) (Or.inl ⟨by kernel_rfl, ?_⟩) hS ?_
              rotate_left
              · (intro w' hSw; have u0 := (HI.out.1 w' hSw).1; have u2 := (HI.out.1 w' hSw).2.1; have u3 := (HI.out.1 w' hSw).2.2; go_simp <;> with_reducible rfl)
              try simp only [List.getElem_toArray, List.getElem_cons_succ, List.getElem_cons_zero, Act.put, List.setIfInBounds_toArray, List.set_cons_zero, List.set_cons_succ]
              refine reg_take (i := 3) (v := ?_) rfl (by kernel_rfl) (by kernel_rfl) (by kernel_rfl) (fun _ _ _ h => h) (Or.inl ⟨by kernel_rfl, ?_⟩) hS ?_
              rotate_left
              · (intro w' hSw; have u0 := (HI.out.1 w' hSw).1; have u2 := (HI.out.1 w' hSw).2.1; have u3 := (HI.out.1 w' hSw).2.2; go_simp <;> with_reducible rfl)
              try simp only [List.getElem_toArray, List.getElem_cons_succ, List.getElem_cons_zero, Act.put, List.setIfInBounds_toArray, List.set_cons_zero, List.set_cons_succ]
              refine reg_take (i := 4) (v := ?_) rfl (by kernel_rfl) (by kernel_rfl) (by kernel_rfl) (fun _ _ _ h => h) (Or.inl ⟨by kernel_rfl, ?_⟩) hS ?_
              rotate_left
              · (intro w' hSw; have u0 := (HI.out.1 w' hSw).1; have u2 := (HI.out.1 w' hSw).2.1; have u3 := (HI.out.1 w' hSw).2.2; go_simp <;> with_reducible rfl)
              try simp only [List.getElem_toArray, List.getElem_cons_succ, List.getElem_cons_zero, Act.put, List.setIfInBounds_toArray, List.set_cons_zero, List.set_cons_succ]
              refine reg_take (i := 5) (v := ?_) rfl (by kernel_rfl) (by kernel_rfl) (by kernel_rfl) (fun _ _ _ h => h) (Or.inl ⟨by kernel_rfl, ?_⟩) hS ?_
              rotate_left
              · (intro w' hSw; have u0 := (HI.out.1 w' hSw).1; have u2 := (HI.out.1 w' hSw).2.1; have u3 := (HI.out.1 w' hSw).2.2; go_simp <;> with_reducible rfl)
              try simp only [List.getElem_toArray, List.getElem_cons_succ, List.getElem_cons_zero, Act.put, List.setIfInBounds_toArray, List.set_cons_zero, List.set_cons_succ]
              refine reg_take (i := 6) (v := ?_) rfl (by kernel_rfl) (by kernel_rfl) (by kernel_rfl) (fun _ _ _ h => h) (Or.inl ⟨by kernel_rfl, ?_⟩) hS ?_
              rotate_left
              · (intro w' hSw; have u0 := (HI.out.1 w' hSw).1; have u2 := (HI.out.1 w' hSw).2.1; have u3 := (HI.out.1 w' hSw).2.2; go_simp <;> with_reducible rfl)
              try simp only [List.getElem_toArray, List.getElem_cons_succ, List.getElem_cons_zero, Act.put, List.setIfInBounds_toArray, List.set_cons_zero, List.set_cons_succ]
              refine reg_take (i := 7) (v := ?_) rfl (by kernel_rfl) (by kernel_rfl) (by kernel_rfl) (fun _ _ _ h => h) (Or.inl ⟨by kernel_rfl, ?_⟩) hS ?_
              rotate_left
              · (intro w' hSw; have u0 := (HI.out.1 w' hSw).1; have u2 := (HI.out.1 w' hSw).2.1; have u3 := (HI.out.1 w' hSw).2.2; go_simp <;> with_reducible rfl)
              try simp only [List.getElem_toArray, List.getElem_cons_succ, List.getElem_cons_zero, Act.put, List.setIfInBounds_toArray, List.set_cons_zero, List.set_cons_succ]
              refine reg_call (i := 8) rfl (by kernel_rfl) (fun K hK => ?_)
              have HK := Lib.hid hK
              clear hK
              go_simp
              refine (HI.out.2.1 wd HD.out.1 m t).mono ?_
              rintro e w8 ⟨hb8, v8, rfl, hr8⟩
              obtain ⟨A8, c8, hv8, -⟩ := hr8.form
              subst hv8
              obtain ⟨lz, hlz⟩ : ∃ lz, lz = selL f m t n := ⟨_, rfl⟩
              have hzl : lz.length ≤ n := by rw [hlz]; exact selL_len _ _ _ _
              rw [← hlz] at hr8 ⊢
              have h78 : Below w7.heap.size w7 w8 := HD.out.2.trans (hb8.mono HD.out.2.size)
              have hxyz : lx = ly ++ lz := by rw [H6.out.2.2, H7.out.2.2.1, hlz]; exact HI.out.2.2.1
              have H8 := Lib.hid (And.intro hr8 (And.intro (H7.out.2.1.trans (h78.mono H7.out.2.1.size)) (And.intro (H7.out.1.below h78) (And.intro (H7.out.2.2.2.below h78) hxyz))))
              clear hr8 hb8 hlz h78 hxyz
              go_wp2_with fail
              refine HK.out.to (Below w5.heap.size w5) (fun _ h => h) (H8.out.2.1) ?_
              clear HK hS
              have hS : (Below w5.heap.size w5) (w8) := H8.out.2.1
              try simp only [List.getElem_toArray, List.getElem_cons_succ, List.getElem_cons_zero, Act.put, List.setIfInBounds_toArray, List.set_cons_zero, List.set_cons_succ]
              refine reg_take (i := 9) (v := ?_) rfl (by kernel_rfl) (by kernel_rfl) (by kernel_rfl) (fun _ _ _ h => h) (Or.inl ⟨by kernel_rfl, ?_⟩) hS ?_
              rotate_left
              · (intro w' hSw; go_simp <;> with_reducible rfl)
              try simp only [List.getElem_toArray, List.getElem_cons_succ, List.getElem_cons_zero, Act.put, List.setIfInBounds_toArray, List.set_cons_zero, List.set_cons_succ]
              refine reg_take (i := 10) (v := ?_) rfl (by kernel_rfl) (by kernel_rfl) (by kernel_rfl) (fun _ _ _ h => h) (Or.inl ⟨by kernel_rfl, ?_⟩) hS ?_
              rotate_left
              · (intro w' hSw; go_simp <;> with_reducible rfl)
              try simp only [List.getElem_toArray, List.getElem_cons_succ, List.getElem_cons_zero, Act.put, List.setIfInBounds_toArray, List.set_cons_zero, List.set_cons_succ]
              refine reg_take (i := 11) (v := ?_) rfl (by kernel_rfl) (by kernel_rfl) (by kernel_rfl) (fun _ _ _ h => h) (Or.inl ⟨by kernel_rfl, ?_⟩) hS ?_
              rotate_left
              · (intro w' hSw; go_simp <;> with_reducible rfl)
              try simp only [List.getElem_toArray, List.getElem_cons_succ, List.getElem_cons_zero, Act.put, List.setIfInBounds_toArray, List.set_cons_zero, List.set_cons_succ]
              refine reg_take (i := 12) (v := ?_) rfl (by kernel_rfl) (by kernel_rfl) (by kernel_rfl) (fun _ _ _ h => h) (Or.inl ⟨by kernel_rfl, ?_⟩) hS ?_
              rotate_left
              · (intro w' hSw; go_simp <;> with_reducible rfl)
              try simp only [List.getElem_toArray, List.getElem_cons_succ, List.getElem_cons_zero, Act.put, List.setIfInBounds_toArray, List.set_cons_zero, List.set_cons_succ]
              refine reg_take (i := 13) (v := ?_) rfl (by kernel_rfl) (by kernel_rfl) (by kernel_rfl) (fun _ _ _ h => h) (Or.inl ⟨by kernel_rfl, ?_⟩) hS ?_
              rotate_left
              · (intro w' hSw; go_simp <;> with_reducible rfl)
              try simp only [List.getElem_toArray, List.getElem_cons_succ, List.getElem_cons_zero, Act.put, List.setIfInBounds_toArray, List.set_cons_zero, List.set_cons_succ]
              refine wpAnyH_done (by kernel_rfl) ?_ _
              try simp only [List.getElem_toArray, List.getElem_cons_succ, List.getElem_cons_zero]
              try simp only [List.getElem_toArray, List.getElem_cons_succ, List.getElem_cons_zero, Act.put, List.setIfInBounds_toArray, List.set_cons_zero, List.set_cons_succ]
              clear hS HD
              have b9 : Below w8.heap.size w8 (w8.alloc (.cells #[] 30)) := (Below.refl _ _).alloc (Nat.le_refl _) _
              have HB9 := Lib.hid b9
              clear b9
              go_wp2_with (at_builtin; refine wpList_append_pts (base := w8.heap.size) (l := []) (l2 := ly) (by first | rfl | kernel_rfl | simp [Region.wanted, yielded]) (.tmp 124) (.tmp 125) rfl rfl rfl ?hown ?hr ?h63 ?hbase ?_)
              case hown => exact World.ownsRow_made w8 #[] 0 (Nat.le_refl _) (by unfold maxLen; omega) rfl
              case hr => exact ⟨_, H8.out.2.2.1.below HB9.out⟩
              case h63 => simp; omega
              case hbase => exact HB9.out.size
              intro v9 w9 hr9 hg9 hx9
              have hb9 := grown_bel HB9.out (World.ownsRow_made (e := 30) (size := 3) w8 #[] 0 (Nat.le_refl _) (by unfold maxLen; omega) rfl) hg9
              have hr9' : PtRow w9 w8.heap.size v9 ly := hr9
              obtain ⟨A9, c9, hv9, -⟩ := hr9'.form
              subst hv9
              have H9 := Lib.hid (And.intro hr9' hb9)
              clear hr9 hg9 hx9 hr9' hb9
              go_wp2_with (at_builtin; refine wpList_append_pts (base := w8.heap.size) (l := ly) (l2 := lz) (by first | rfl | kernel_rfl | simp [Region.wanted, yielded]) (.tmp 126) (.tmp 127) rfl rfl rfl ?hown ?hr ?h63 ?hbase ?_)
              case hown => exact H9.out.1
              case hr => exact ⟨_, H8.out.1.below H9.out.2⟩
              case h63 => omega
              case hbase => exact H9.out.2.size
              intro v10 w10 hr10 hg10 hx10
              have hb10 := grown_bel H9.out.2 H9.out.1 hg10
              rw [← H8.out.2.2.2.2] at hr10
              obtain ⟨A10, c10, hv10, -⟩ := hr10.form
              subst hv10
              have hsame := same_rows_s (H8.out.2.2.2.1.below hb10) hr10
              have H10 := Lib.hid (And.intro hsame (H8.out.2.1.trans (hb10.mono H8.out.2.1.size)))
              clear hr10 hg10 hx10 hb10 hsame
              go_wp2_with fail
              refine H10.out.1.mono ?_
              rintro e w11 ⟨rfl, hb11⟩
              have H11 := Lib.hid (H10.out.2.trans (hb11.mono H10.out.2.size))
              clear hb11
              go_wp2_with fail
              go_roundw
              case rel => exact ⟨i + 1, by omega, by go_num, H11.out⟩
              case measure => simp [intOf] <;> omega
            · have HF := Lib.hid (H5.out.2.1.trans (hb.mono H5.out.2.1.size))
              clear hb
              go_wp2_with fail
              go_ret
              exact ⟨rfl, HF.out⟩
    · rw [hg0]
      obtain ⟨L, hL⟩ : ∃ L, L = (sB nm pf pn k).1 := ⟨_, rfl⟩
      rw [← hL] at ho2 hFl
      obtain ⟨ll, hll⟩ : ∃ ll, ll = L.length := ⟨_, rfl⟩
      rw [← hll] at ho2
      obtain ⟨A2, c2, hv2, -, -⟩ := own_form ho2
      subst hv2
      have hcap2 := V.own_cap ho2
      have hw2 := HB.out.1.trans (hb2.mono HB.out.1.size)
      have hopen := open_ok w2 A2 ll c2 L _ nm pf pn k hFl hBt hll.symm (V.ow_sl ho2) hcap2.1 hcap2.2 (HV.out.below hw2)
      have hO20 : (sO pf pn k).length ≤ 1048576 := by have h1 := hFl.fl; have h2 := hFl.len; omega
      have H2 := Lib.hid (And.intro hw2 (And.intro (HB.out.2.1.below hb2 HB.out.2.1.lt) (And.intro hBt (And.intro hO20 (And.intro H0.out.1.ok hopen)))))
      clear ho2 hb2 hcap2 hw2 hopen hBt hFl hL hll hg0 hO20
      go_wp2_with fail
      refine H2.out.2.2.2.2.2.mono ?_
      rintro e w3 ⟨p, M, o, Ab, cb, cn, VS, rfl, hseg, hb3⟩
      have H3 := Lib.hid (And.intro hseg (And.intro (H2.out.1.trans (hb3.mono H2.out.1.size)) (H2.out.2.1.below hb3 H2.out.2.1.lt)))
      clear hseg hb3
      obtain ⟨ps, hps⟩ : ∃ ps, ps = psum pn k := ⟨_, rfl⟩
      have hpp := psum_pos H2.out.2.2.1
      have hcnt := scount_any w3 p _ nm pf pn k M o Ab cb cn VS H3.out.1 H2.out.2.2.1
      rw [← hps] at hpp hcnt
      have HC := Lib.hid hcnt
      clear hcnt hps
      go_wp2_with fail
      refine HC.out.mono ?_
      rintro e w4 ⟨rfl, hb4⟩
      have d0 : ((ps : Int) == 0) = false := by simp; omega
      have H4 := Lib.hid (And.intro (H3.out.1.below hb4) (And.intro (H3.out.2.1.trans (hb4.mono H3.out.2.1.size)) (H3.out.2.2.below hb4 H3.out.2.2.lt)))
      clear hb4 HC
      have u0 := H4.out.2.2.cell 0
      have u1 := H4.out.2.2.cell 1
      by_cases k1 : m < s
      · have d1 : decide (m < s) = true := by simp; omega
        go_wp2_with fail
        go_ret
        exact ⟨rfl, H4.out.2.1⟩
      · have d1 : decide (m < s) = false := by simp; omega
        by_cases k2 : t < m
        · have d2 : decide (t < m) = true := by simp; omega
          go_wp2_with fail
          go_ret
          exact ⟨rfl, H4.out.2.1⟩
        · have d2 : decide (t < m) = false := by simp; omega
          have HK := Lib.hid (And.intro (show s ≤ m by omega) (show m ≤ t by omega))
          clear k1 k2
          go_wp2_with fail
          refine (snames_any w4 p _ nm pf pn k M o Ab cb cn VS H4.out.1 H2.out.2.2.1.k1).mono ?_
          rintro e w5 ⟨A5, c5, rfl, hkc, hb5, hs5⟩
          obtain ⟨bn, on, hA5, hbn, hcn⟩ := hs5 H2.out.2.2.1.k0
          subst hA5
          have hkk := H2.out.2.2.1.k1
          have H5 := Lib.hid (And.intro (H4.out.1.below hb5) (And.intro (H4.out.2.1.trans (hb5.mono H4.out.2.1.size)) (And.intro (H4.out.2.2.below hb5 H4.out.2.2.lt) (And.intro hbn hcn))))
          clear hb5 hs5 hbn hcn u0 u1 d1 d2
          go_wp2_with fail
          go_loopw [12] (fun iv wr => ∃ i, i ≤ k ∧ iv = .int .i64 (i : Nat) ∧ Below w5.heap.size w5 wr) (fun iv _ => k - (intOf iv).toNat)
          case atStart => exact ⟨0, by omega, rfl, Below.refl _ _⟩
          case round =>
            obtain ⟨i, hi, rfl, hb⟩ := hrel
            by_cases hlt : i < k
            · have hik : (i : Int) < (k : Int) := by omega
              obtain ⟨x, hx⟩ : ∃ x, x = nm i := ⟨_, rfl⟩
              have hce : ∀ wx, Below w5.heap.size w5 wx → wx.cell? ⟨bn, on + i, none⟩ = some (.string x) ∧ wx.cell? ⟨sp, 0, none⟩ = some (.int .i64 s) ∧ wx.cell? ⟨sp, 1, none⟩ = some (.int .i64 t) := fun wx hx' => by
                rw [hx]
                exact ⟨(hx'.cell (by exact H5.out.2.2.2.1)).trans (H5.out.2.2.2.2 i hlt), (hx'.cell (by exact H5.out.2.2.1.lt)).trans (H5.out.2.2.1.cell 0), (hx'.cell (by exact H5.out.2.2.1.lt)).trans (H5.out.2.2.1.cell 1)⟩
              obtain ⟨n, hn⟩ : ∃ n, n = pn i := ⟨_, rfl⟩
              obtain ⟨f, hfe⟩ : ∃ f, f = pf i := ⟨_, rfl⟩
              have hn4 : n ≤ 4096 := by rw [hn]; exact H2.out.2.2.1.pb i hlt
              have hgp : ∀ wx, Below w5.heap.size w5 wx → ∀ a' b' : Int, Calls Tryz.prog 10 #[.pointer (some ⟨p, 0, none⟩), .string x, .int .i64 a', .int .i64 b'] wx (GoodPts wx (selL f a' b' n)) := fun wx hx' a' b' => by
                rw [hx, hn, hfe]
                exact gpoints_any wx p nm pf pn k M o Ab cb cn VS (H5.out.1.below hx') H2.out.2.2.1 H2.out.2.2.2.1 H2.out.2.2.2.2.1 i hlt a' b' (HV.out.below (H5.out.2.1.trans (hx'.mono H5.out.2.1.size)))
              have hspl : selL f s t n = selL f s m n ++ selL f m t n := split_at HK.out.1 HK.out.2 n (fun i' j' h1 h2 => by rw [hfe] at *; rw [hn] at h2; exact part_lt (H2.out.2.2.1.bv hlt) h1 h2)
              have HI := Lib.hid (And.intro hce (And.intro hgp (And.intro hspl hb)))
              clear hce hgp hspl hx hn hfe
              go_upto_region 15 with (fail)
              have hS := HI.out.2.2.2.drew
              have hS : (Below w5.heap.size w5) (wr.drew) := hS
              refine reg_start (Below w5.heap.size w5) (by kernel_rfl) hS ?_
              generalize wr.drew = wd at hS ⊢
              clear hb
              have HD := Lib.hid hS
              refine reg_take (i := 0) (v := ?_) rfl (by kernel_rfl) (by kernel_rfl) (by kernel_rfl) (fun _ _ _ h => h) (Or.inl ⟨by kernel_rfl, ?_⟩) hS ?_
              rotate_left
              · (intro w' hSw; have u0 := (HI.out.1 w' hSw).1; have u2 := (HI.out.1 w' hSw).2.1; have u3 := (HI.out.1 w' hSw).2.2; go_simp <;> with_reducible rfl)
              try simp only [List.getElem_toArray, List.getElem_cons_succ, List.getElem_cons_zero, Act.put, List.setIfInBounds_toArray, List.set_cons_zero, List.set_cons_succ]
              refine reg_take (i := 1) (v := ?_) rfl (by kernel_rfl) (by kernel_rfl) (by kernel_rfl) (fun _ _ _ h => h) (Or.inl ⟨by kernel_rfl, ?_⟩) hS ?_
              rotate_left
              · (intro w' hSw; have u0 := (HI.out.1 w' hSw).1; have u2 := (HI.out.1 w' hSw).2.1; have u3 := (HI.out.1 w' hSw).2.2; go_simp <;> with_reducible rfl)
              try simp only [List.getElem_toArray, List.getElem_cons_succ, List.getElem_cons_zero, Act.put, List.setIfInBounds_toArray, List.set_cons_zero, List.set_cons_succ]
              refine reg_take (i := 2) (v := ?_) rfl (by kernel_rfl) (by kernel_rfl) (by kernel_rfl) (fun _ _ _ h => h) (Or.inl ⟨by kernel_rfl, ?_⟩) hS ?_
              rotate_left
              · (intro w' hSw; have u0 := (HI.out.1 w' hSw).1; have u2 := (HI.out.1 w' hSw).2.1; have u3 := (HI.out.1 w' hSw).2.2; go_simp <;> with_reducible rfl)
              try simp only [List.getElem_toArray, List.getElem_cons_succ, List.getElem_cons_zero, Act.put, List.setIfInBounds_toArray, List.set_cons_zero, List.set_cons_succ]
              refine reg_take (i := 3) (v := ?_) rfl (by kernel_rfl) (by kernel_rfl) (by kernel_rfl) (fun _ _ _ h => h) (Or.inl ⟨by kernel_rfl, ?_⟩) hS ?_
              rotate_left
              · (intro w' hSw; have u0 := (HI.out.1 w' hSw).1; have u2 := (HI.out.1 w' hSw).2.1; have u3 := (HI.out.1 w' hSw).2.2; go_simp <;> with_reducible rfl)
              try simp only [List.getElem_toArray, List.getElem_cons_succ, List.getElem_cons_zero, Act.put, List.setIfInBounds_toArray, List.set_cons_zero, List.set_cons_succ]
              refine reg_take (i := 4) (v := ?_) rfl (by kernel_rfl) (by kernel_rfl) (by kernel_rfl) (fun _ _ _ h => h) (Or.inl ⟨by kernel_rfl, ?_⟩) hS ?_
              rotate_left
              · (intro w' hSw; have u0 := (HI.out.1 w' hSw).1; have u2 := (HI.out.1 w' hSw).2.1; have u3 := (HI.out.1 w' hSw).2.2; go_simp <;> with_reducible rfl)
              try simp only [List.getElem_toArray, List.getElem_cons_succ, List.getElem_cons_zero, Act.put, List.setIfInBounds_toArray, List.set_cons_zero, List.set_cons_succ]
              refine reg_take (i := 5) (v := ?_) rfl (by kernel_rfl) (by kernel_rfl) (by kernel_rfl) (fun _ _ _ h => h) (Or.inl ⟨by kernel_rfl, ?_⟩) hS ?_
              rotate_left
              · (intro w' hSw; have u0 := (HI.out.1 w' hSw).1; have u2 := (HI.out.1 w' hSw).2.1; have u3 := (HI.out.1 w' hSw).2.2; go_simp <;> with_reducible rfl)
              try simp only [List.getElem_toArray, List.getElem_cons_succ, List.getElem_cons_zero, Act.put, List.setIfInBounds_toArray, List.set_cons_zero, List.set_cons_succ]
              refine reg_take (i := 6) (v := ?_) rfl (by kernel_rfl) (by kernel_rfl) (by kernel_rfl) (fun _ _ _ h => h) (Or.inl ⟨by kernel_rfl, ?_⟩) hS ?_
              rotate_left
              · (intro w' hSw; have u0 := (HI.out.1 w' hSw).1; have u2 := (HI.out.1 w' hSw).2.1; have u3 := (HI.out.1 w' hSw).2.2; go_simp <;> with_reducible rfl)
              try simp only [List.getElem_toArray, List.getElem_cons_succ, List.getElem_cons_zero, Act.put, List.setIfInBounds_toArray, List.set_cons_zero, List.set_cons_succ]
              refine reg_take (i := 7) (v := ?_) rfl (by kernel_rfl) (by kernel_rfl) (by kernel_rfl) (fun _ _ _ h => h) (Or.inl ⟨by kernel_rfl, ?_⟩) hS ?_
              rotate_left
              · (intro w' hSw; have u0 := (HI.out.1 w' hSw).1; have u2 := (HI.out.1 w' hSw).2.1; have u3 := (HI.out.1 w' hSw).2.2; go_simp <;> with_reducible rfl)
              try simp only [List.getElem_toArray, List.getElem_cons_succ, List.getElem_cons_zero, Act.put, List.setIfInBounds_toArray, List.set_cons_zero, List.set_cons_succ]
              refine reg_take (i := 8) (v := ?_) rfl (by kernel_rfl) (by kernel_rfl) (by kernel_rfl) (fun _ _ _ h => h) (Or.inl ⟨by kernel_rfl, ?_⟩) hS ?_
              rotate_left
              · (intro w' hSw; have u0 := (HI.out.1 w' hSw).1; have u2 := (HI.out.1 w' hSw).2.1; have u3 := (HI.out.1 w' hSw).2.2; go_simp <;> with_reducible rfl)
              try simp only [List.getElem_toArray, List.getElem_cons_succ, List.getElem_cons_zero, Act.put, List.setIfInBounds_toArray, List.set_cons_zero, List.set_cons_succ]
              refine reg_call (i := 9) rfl (by kernel_rfl) (fun K hK => ?_)
              have HK := Lib.hid hK
              clear hK
              go_simp
              refine (HI.out.2.1 wd HD.out s t).mono ?_
              rintro e w6 ⟨hb6, v6, rfl, hr6⟩
              obtain ⟨A6, c6, hv6, -⟩ := hr6.form
              subst hv6
              obtain ⟨lx, hlx⟩ : ∃ lx, lx = selL f s t n := ⟨_, rfl⟩
              have hxl : lx.length ≤ n := by rw [hlx]; exact selL_len _ _ _ _
              rw [← hlx] at hr6 ⊢
              have H6 := Lib.hid (And.intro hr6 (And.intro (HD.out.trans (hb6.mono HD.out.size)) hlx))
              clear hr6 hb6 hlx
              go_wp2_with fail
              refine HK.out.to (Below w5.heap.size w5) (fun _ h => h) (H6.out.2.1) ?_
              clear HK hS
              have hS : (Below w5.heap.size w5) (w6) := H6.out.2.1
              try simp only [List.getElem_toArray, List.getElem_cons_succ, List.getElem_cons_zero, Act.put, List.setIfInBounds_toArray, List.set_cons_zero, List.set_cons_succ]
              refine reg_take (i := 10) (v := ?_) rfl (by kernel_rfl) (by kernel_rfl) (by kernel_rfl) (fun _ _ _ h => h) (Or.inl ⟨by kernel_rfl, ?_⟩) hS ?_
              rotate_left
              · (intro w' hSw; go_simp <;> with_reducible rfl)
              try simp only [List.getElem_toArray, List.getElem_cons_succ, List.getElem_cons_zero, Act.put, List.setIfInBounds_toArray, List.set_cons_zero, List.set_cons_succ]
              refine reg_take (i := 11) (v := ?_) rfl (by kernel_rfl) (by kernel_rfl) (by kernel_rfl) (fun _ _ _ h => h) (Or.inl ⟨by kernel_rfl, ?_⟩) hS ?_
              rotate_left
              · (intro w' hSw; go_simp <;> with_reducible rfl)
              try simp only [List.getElem_toArray, List.getElem_cons_succ, List.getElem_cons_zero, Act.put, List.setIfInBounds_toArray, List.set_cons_zero, List.set_cons_succ]
              refine reg_take (i := 12) (v := ?_) rfl (by kernel_rfl) (by kernel_rfl) (by kernel_rfl) (fun _ _ _ h => h) (Or.inl ⟨by kernel_rfl, ?_⟩) hS ?_
              rotate_left
              · (intro w' hSw; go_simp <;> with_reducible rfl)
              try simp only [List.getElem_toArray, List.getElem_cons_succ, List.getElem_cons_zero, Act.put, List.setIfInBounds_toArray, List.set_cons_zero, List.set_cons_succ]
              refine reg_take (i := 13) (v := ?_) rfl (by kernel_rfl) (by kernel_rfl) (by kernel_rfl) (fun _ _ _ h => h) (Or.inl ⟨by kernel_rfl, ?_⟩) hS ?_
              rotate_left
              · (intro w' hSw; go_simp <;> with_reducible rfl)
              try simp only [List.getElem_toArray, List.getElem_cons_succ, List.getElem_cons_zero, Act.put, List.setIfInBounds_toArray, List.set_cons_zero, List.set_cons_succ]
              refine reg_take (i := 14) (v := ?_) rfl (by kernel_rfl) (by kernel_rfl) (by kernel_rfl) (fun _ _ _ h => h) (Or.inl ⟨by kernel_rfl, ?_⟩) hS ?_
              rotate_left
              · (intro w' hSw; go_simp <;> with_reducible rfl)
              try simp only [List.getElem_toArray, List.getElem_cons_succ, List.getElem_cons_zero, Act.put, List.setIfInBounds_toArray, List.set_cons_zero, List.set_cons_succ]
              refine wpAnyH_done (by kernel_rfl) ?_ _
              try simp only [List.getElem_toArray, List.getElem_cons_succ, List.getElem_cons_zero]
              try simp only [List.getElem_toArray, List.getElem_cons_succ, List.getElem_cons_zero, Act.put, List.setIfInBounds_toArray, List.set_cons_zero, List.set_cons_succ]
              clear hS HD
              go_upto_region 16 with (fail)
              have hS := H6.out.2.1.drew
              have hS : (Below w5.heap.size w5) (w6.drew) := hS
              refine reg_start (Below w5.heap.size w5) (by kernel_rfl) hS ?_
              have e6 : Below w6.heap.size w6 w6.drew := (Below.refl _ _).drew
              generalize w6.drew = wd at hS e6 ⊢
              have HD := Lib.hid (And.intro hS e6)
              clear e6
              refine reg_take (i := 0) (v := ?_) rfl (by kernel_rfl) (by kernel_rfl) (by kernel_rfl) (fun _ _ _ h => h) (Or.inl ⟨by kernel_rfl, ?_⟩) hS ?_
              rotate_left
              · (intro w' hSw; have u0 := (HI.out.1 w' hSw).1; have u2 := (HI.out.1 w' hSw).2.1; have u3 := (HI.out.1 w' hSw).2.2; go_simp <;> with_reducible rfl)
              try simp only [List.getElem_toArray, List.getElem_cons_succ, List.getElem_cons_zero, Act.put, List.setIfInBounds_toArray, List.set_cons_zero, List.set_cons_succ]
              refine reg_take (i := 1) (v := ?_) rfl (by kernel_rfl) (by kernel_rfl) (by kernel_rfl) (fun _ _ _ h => h) (Or.inl ⟨by kernel_rfl, ?_⟩) hS ?_
              rotate_left
              · (intro w' hSw; have u0 := (HI.out.1 w' hSw).1; have u2 := (HI.out.1 w' hSw).2.1; have u3 := (HI.out.1 w' hSw).2.2; go_simp <;> with_reducible rfl)
              try simp only [List.getElem_toArray, List.getElem_cons_succ, List.getElem_cons_zero, Act.put, List.setIfInBounds_toArray, List.set_cons_zero, List.set_cons_succ]
              refine reg_take (i := 2) (v := ?_) rfl (by kernel_rfl) (by kernel_rfl) (by kernel_rfl) (fun _ _ _ h => h) (Or.inl ⟨by kernel_rfl, ?_⟩) hS ?_
              rotate_left
              · (intro w' hSw; have u0 := (HI.out.1 w' hSw).1; have u2 := (HI.out.1 w' hSw).2.1; have u3 := (HI.out.1 w' hSw).2.2; go_simp <;> with_reducible rfl)
              try simp only [List.getElem_toArray, List.getElem_cons_succ, List.getElem_cons_zero, Act.put, List.setIfInBounds_toArray, List.set_cons_zero, List.set_cons_succ]
              refine reg_take (i := 3) (v := ?_) rfl (by kernel_rfl) (by kernel_rfl) (by kernel_rfl) (fun _ _ _ h => h) (Or.inl ⟨by kernel_rfl, ?_⟩) hS ?_
              rotate_left
              · (intro w' hSw; have u0 := (HI.out.1 w' hSw).1; have u2 := (HI.out.1 w' hSw).2.1; have u3 := (HI.out.1 w' hSw).2.2; go_simp <;> with_reducible rfl)
              try simp only [List.getElem_toArray, List.getElem_cons_succ, List.getElem_cons_zero, Act.put, List.setIfInBounds_toArray, List.set_cons_zero, List.set_cons_succ]
              refine reg_take (i := 4) (v := ?_) rfl (by kernel_rfl) (by kernel_rfl) (by kernel_rfl) (fun _ _ _ h => h) (Or.inl ⟨by kernel_rfl, ?_⟩) hS ?_
              rotate_left
              · (intro w' hSw; have u0 := (HI.out.1 w' hSw).1; have u2 := (HI.out.1 w' hSw).2.1; have u3 := (HI.out.1 w' hSw).2.2; go_simp <;> with_reducible rfl)
              try simp only [List.getElem_toArray, List.getElem_cons_succ, List.getElem_cons_zero, Act.put, List.setIfInBounds_toArray, List.set_cons_zero, List.set_cons_succ]
              refine reg_take (i := 5) (v := ?_) rfl (by kernel_rfl) (by kernel_rfl) (by kernel_rfl) (fun _ _ _ h => h) (Or.inl ⟨by kernel_rfl, ?_⟩) hS ?_
              rotate_left
              · (intro w' hSw; have u0 := (HI.out.1 w' hSw).1; have u2 := (HI.out.1 w' hSw).2.1; have u3 := (HI.out.1 w' hSw).2.2; go_simp <;> with_reducible rfl)
              try simp only [List.getElem_toArray, List.getElem_cons_succ, List.getElem_cons_zero, Act.put, List.setIfInBounds_toArray, List.set_cons_zero, List.set_cons_succ]
              refine reg_take (i := 6) (v := ?_) rfl (by kernel_rfl) (by kernel_rfl) (by kernel_rfl) (fun _ _ _ h => h) (Or.inl ⟨by kernel_rfl, ?_⟩) hS ?_
              rotate_left
              · (intro w' hSw; have u0 := (HI.out.1 w' hSw).1; have u2 := (HI.out.1 w' hSw).2.1; have u3 := (HI.out.1 w' hSw).2.2; go_simp <;> with_reducible rfl)
              try simp only [List.getElem_toArray, List.getElem_cons_succ, List.getElem_cons_zero, Act.put, List.setIfInBounds_toArray, List.set_cons_zero, List.set_cons_succ]
              refine reg_take (i := 7) (v := ?_) rfl (by kernel_rfl) (by kernel_rfl) (by kernel_rfl) (fun _ _ _ h => h) (Or.inl ⟨by kernel_rfl, ?_⟩) hS ?_
              rotate_left
              · (intro w' hSw; have u0 := (HI.out.1 w' hSw).1; have u2 := (HI.out.1 w' hSw).2.1; have u3 := (HI.out.1 w' hSw).2.2; go_simp <;> with_reducible rfl)
              try simp only [List.getElem_toArray, List.getElem_cons_succ, List.getElem_cons_zero, Act.put, List.setIfInBounds_toArray, List.set_cons_zero, List.set_cons_succ]
              refine reg_call (i := 8) rfl (by kernel_rfl) (fun K hK => ?_)
              have HK := Lib.hid hK
              clear hK
              go_simp
              refine (HI.out.2.1 wd HD.out.1 s m).mono ?_
              rintro e w7 ⟨hb7, v7, rfl, hr7⟩
              obtain ⟨A7, c7, hv7, -⟩ := hr7.form
              subst hv7
              obtain ⟨ly, hly⟩ : ∃ ly, ly = selL f s m n := ⟨_, rfl⟩
              have hyl : ly.length ≤ n := by rw [hly]; exact selL_len _ _ _ _
              rw [← hly] at hr7 ⊢
              have h67 : Below w6.heap.size w6 w7 := HD.out.2.trans (hb7.mono HD.out.2.size)
              have H7 := Lib.hid (And.intro hr7 (And.intro (H6.out.2.1.trans (h67.mono H6.out.2.1.size)) (And.intro hly (H6.out.1.below h67))))
              clear hr7 hb7 hly h67
              go_wp2_with fail
              refine HK.out.to (Below w5.heap.size w5) (fun _ h => h) (H7.out.2.1) ?_
              clear HK hS
              have hS : (Below w5.heap.size w5) (w7) := H7.out.2.1
              try simp only [List.getElem_toArray, List.getElem_cons_succ, List.getElem_cons_zero, Act.put, List.setIfInBounds_toArray, List.set_cons_zero, List.set_cons_succ]
              refine reg_take (i := 9) (v := ?_) rfl (by kernel_rfl) (by kernel_rfl) (by kernel_rfl) (fun _ _ _ h => h) (Or.inl ⟨by kernel_rfl, ?_⟩) hS ?_
              rotate_left
              · (intro w' hSw; go_simp <;> with_reducible rfl)
              try simp only [List.getElem_toArray, List.getElem_cons_succ, List.getElem_cons_zero, Act.put, List.setIfInBounds_toArray, List.set_cons_zero, List.set_cons_succ]
              refine reg_take (i := 10) (v := ?_) rfl (by kernel_rfl) (by kernel_rfl) (by kernel_rfl) (fun _ _ _ h => h) (Or.inl ⟨by kernel_rfl, ?_⟩) hS ?_
              rotate_left
              · (intro w' hSw; go_simp <;> with_reducible rfl)
              try simp only [List.getElem_toArray, List.getElem_cons_succ, List.getElem_cons_zero, Act.put, List.setIfInBounds_toArray, List.set_cons_zero, List.set_cons_succ]
              refine reg_take (i := 11) (v := ?_) rfl (by kernel_rfl) (by kernel_rfl) (by kernel_rfl) (fun _ _ _ h => h) (Or.inl ⟨by kernel_rfl, ?_⟩) hS ?_
              rotate_left
              · (intro w' hSw; go_simp <;> with_reducible rfl)
              try simp only [List.getElem_toArray, List.getElem_cons_succ, List.getElem_cons_zero, Act.put, List.setIfInBounds_toArray, List.set_cons_zero, List.set_cons_succ]
              refine reg_take (i := 12) (v := ?_) rfl (by kernel_rfl) (by kernel_rfl) (by kernel_rfl) (fun _ _ _ h => h) (Or.inl ⟨by kernel_rfl, ?_⟩) hS ?_
              rotate_left
              · (intro w' hSw; go_simp <;> with_reducible rfl)
              try simp only [List.getElem_toArray, List.getElem_cons_succ, List.getElem_cons_zero, Act.put, List.setIfInBounds_toArray, List.set_cons_zero, List.set_cons_succ]
              refine reg_take (i := 13) (v := ?_) rfl (by kernel_rfl) (by kernel_rfl) (by kernel_rfl) (fun _ _ _ h => h) (Or.inl ⟨by kernel_rfl, ?_⟩) hS ?_
              rotate_left
              · (intro w' hSw; go_simp <;> with_reducible rfl)
              try simp only [List.getElem_toArray, List.getElem_cons_succ, List.getElem_cons_zero, Act.put, List.setIfInBounds_toArray, List.set_cons_zero, List.set_cons_succ]
              refine wpAnyH_done (by kernel_rfl) ?_ _
              try simp only [List.getElem_toArray, List.getElem_cons_succ, List.getElem_cons_zero]
              try simp only [List.getElem_toArray, List.getElem_cons_succ, List.getElem_cons_zero, Act.put, List.setIfInBounds_toArray, List.set_cons_zero, List.set_cons_succ]
              clear hS HD
              go_upto_region 17 with (fail)
              have hS := H7.out.2.1.drew
              have hS : (Below w5.heap.size w5) (w7.drew) := hS
              refine reg_start (Below w5.heap.size w5) (by kernel_rfl) hS ?_
              have e7 : Below w7.heap.size w7 w7.drew := (Below.refl _ _).drew
              generalize w7.drew = wd at hS e7 ⊢
              have HD := Lib.hid (And.intro hS e7)
              clear e7
              refine reg_take (i := 0) (v := ?_) rfl (by kernel_rfl) (by kernel_rfl) (by kernel_rfl) (fun _ _ _ h => h) (Or.inl ⟨by kernel_rfl, ?_⟩) hS ?_
              rotate_left
              · (intro w' hSw; have u0 := (HI.out.1 w' hSw).1; have u2 := (HI.out.1 w' hSw).2.1; have u3 := (HI.out.1 w' hSw).2.2; go_simp <;> with_reducible rfl)
              try simp only [List.getElem_toArray, List.getElem_cons_succ, List.getElem_cons_zero, Act.put, List.setIfInBounds_toArray, List.set_cons_zero, List.set_cons_succ]
              refine reg_take (i := 1) (v := ?_) rfl (by kernel_rfl) (by kernel_rfl) (by kernel_rfl) (fun _ _ _ h => h) (Or.inl ⟨by kernel_rfl, ?_⟩) hS ?_
              rotate_left
              · (intro w' hSw; have u0 := (HI.out.1 w' hSw).1; have u2 := (HI.out.1 w' hSw).2.1; have u3 := (HI.out.1 w' hSw).2.2; go_simp <;> with_reducible rfl)
              try simp only [List.getElem_toArray, List.getElem_cons_succ, List.getElem_cons_zero, Act.put, List.setIfInBounds_toArray, List.set_cons_zero, List.set_cons_succ]
              refine reg_take (i := 2) (v := ?_) rfl (by kernel_rfl) (by kernel_rfl) (by kernel_rfl) (fun _ _ _ h => h) (Or.inl ⟨by kernel_rfl, ?_⟩) hS ?_
              rotate_left
              · (intro w' hSw; have u0 := (HI.out.1 w' hSw).1; have u2 := (HI.out.1 w' hSw).2.1; have u3 := (HI.out.1 w' hSw).2.2; go_simp <;> with_reducible rfl)
              try simp only [List.getElem_toArray, List.getElem_cons_succ, List.getElem_cons_zero, Act.put, List.setIfInBounds_toArray, List.set_cons_zero, List.set_cons_succ]
              refine reg_take (i := 3) (v := ?_) rfl (by kernel_rfl) (by kernel_rfl) (by kernel_rfl) (fun _ _ _ h => h) (Or.inl ⟨by kernel_rfl, ?_⟩) hS ?_
              rotate_left
              · (intro w' hSw; have u0 := (HI.out.1 w' hSw).1; have u2 := (HI.out.1 w' hSw).2.1; have u3 := (HI.out.1 w' hSw).2.2; go_simp <;> with_reducible rfl)
              try simp only [List.getElem_toArray, List.getElem_cons_succ, List.getElem_cons_zero, Act.put, List.setIfInBounds_toArray, List.set_cons_zero, List.set_cons_succ]
              refine reg_take (i := 4) (v := ?_) rfl (by kernel_rfl) (by kernel_rfl) (by kernel_rfl) (fun _ _ _ h => h) (Or.inl ⟨by kernel_rfl, ?_⟩) hS ?_
              rotate_left
              · (intro w' hSw; have u0 := (HI.out.1 w' hSw).1; have u2 := (HI.out.1 w' hSw).2.1; have u3 := (HI.out.1 w' hSw).2.2; go_simp <;> with_reducible rfl)
              try simp only [List.getElem_toArray, List.getElem_cons_succ, List.getElem_cons_zero, Act.put, List.setIfInBounds_toArray, List.set_cons_zero, List.set_cons_succ]
              refine reg_take (i := 5) (v := ?_) rfl (by kernel_rfl) (by kernel_rfl) (by kernel_rfl) (fun _ _ _ h => h) (Or.inl ⟨by kernel_rfl, ?_⟩) hS ?_
              rotate_left
              · (intro w' hSw; have u0 := (HI.out.1 w' hSw).1; have u2 := (HI.out.1 w' hSw).2.1; have u3 := (HI.out.1 w' hSw).2.2; go_simp <;> with_reducible rfl)
              try simp only [List.getElem_toArray, List.getElem_cons_succ, List.getElem_cons_zero, Act.put, List.setIfInBounds_toArray, List.set_cons_zero, List.set_cons_succ]
              refine reg_take (i := 6) (v := ?_) rfl (by kernel_rfl) (by kernel_rfl) (by kernel_rfl) (fun _ _ _ h => h) (Or.inl ⟨by kernel_rfl, ?_⟩) hS ?_
              rotate_left
              · (intro w' hSw; have u0 := (HI.out.1 w' hSw).1; have u2 := (HI.out.1 w' hSw).2.1; have u3 := (HI.out.1 w' hSw).2.2; go_simp <;> with_reducible rfl)
              try simp only [List.getElem_toArray, List.getElem_cons_succ, List.getElem_cons_zero, Act.put, List.setIfInBounds_toArray, List.set_cons_zero, List.set_cons_succ]
              refine reg_take (i := 7) (v := ?_) rfl (by kernel_rfl) (by kernel_rfl) (by kernel_rfl) (fun _ _ _ h => h) (Or.inl ⟨by kernel_rfl, ?_⟩) hS ?_
              rotate_left
              · (intro w' hSw; have u0 := (HI.out.1 w' hSw).1; have u2 := (HI.out.1 w' hSw).2.1; have u3 := (HI.out.1 w' hSw).2.2; go_simp <;> with_reducible rfl)
              try simp only [List.getElem_toArray, List.getElem_cons_succ, List.getElem_cons_zero, Act.put, List.setIfInBounds_toArray, List.set_cons_zero, List.set_cons_succ]
              refine reg_call (i := 8) rfl (by kernel_rfl) (fun K hK => ?_)
              have HK := Lib.hid hK
              clear hK
              go_simp
              refine (HI.out.2.1 wd HD.out.1 m t).mono ?_
              rintro e w8 ⟨hb8, v8, rfl, hr8⟩
              obtain ⟨A8, c8, hv8, -⟩ := hr8.form
              subst hv8
              obtain ⟨lz, hlz⟩ : ∃ lz, lz = selL f m t n := ⟨_, rfl⟩
              have hzl : lz.length ≤ n := by rw [hlz]; exact selL_len _ _ _ _
              rw [← hlz] at hr8 ⊢
              have h78 : Below w7.heap.size w7 w8 := HD.out.2.trans (hb8.mono HD.out.2.size)
              have hxyz : lx = ly ++ lz := by rw [H6.out.2.2, H7.out.2.2.1, hlz]; exact HI.out.2.2.1
              have H8 := Lib.hid (And.intro hr8 (And.intro (H7.out.2.1.trans (h78.mono H7.out.2.1.size)) (And.intro (H7.out.1.below h78) (And.intro (H7.out.2.2.2.below h78) hxyz))))
              clear hr8 hb8 hlz h78 hxyz
              go_wp2_with fail
              refine HK.out.to (Below w5.heap.size w5) (fun _ h => h) (H8.out.2.1) ?_
              clear HK hS
              have hS : (Below w5.heap.size w5) (w8) := H8.out.2.1
              try simp only [List.getElem_toArray, List.getElem_cons_succ, List.getElem_cons_zero, Act.put, List.setIfInBounds_toArray, List.set_cons_zero, List.set_cons_succ]
              refine reg_take (i := 9) (v := ?_) rfl (by kernel_rfl) (by kernel_rfl) (by kernel_rfl) (fun _ _ _ h => h) (Or.inl ⟨by kernel_rfl, ?_⟩) hS ?_
              rotate_left
              · (intro w' hSw; go_simp <;> with_reducible rfl)
              try simp only [List.getElem_toArray, List.getElem_cons_succ, List.getElem_cons_zero, Act.put, List.setIfInBounds_toArray, List.set_cons_zero, List.set_cons_succ]
              refine reg_take (i := 10) (v := ?_) rfl (by kernel_rfl) (by kernel_rfl) (by kernel_rfl) (fun _ _ _ h => h) (Or.inl ⟨by kernel_rfl, ?_⟩) hS ?_
              rotate_left
              · (intro w' hSw; go_simp <;> with_reducible rfl)
              try simp only [List.getElem_toArray, List.getElem_cons_succ, List.getElem_cons_zero, Act.put, List.setIfInBounds_toArray, List.set_cons_zero, List.set_cons_succ]
              refine reg_take (i := 11) (v := ?_) rfl (by kernel_rfl) (by kernel_rfl) (by kernel_rfl) (fun _ _ _ h => h) (Or.inl ⟨by kernel_rfl, ?_⟩) hS ?_
              rotate_left
              · (intro w' hSw; go_simp <;> with_reducible rfl)
              try simp only [List.getElem_toArray, List.getElem_cons_succ, List.getElem_cons_zero, Act.put, List.setIfInBounds_toArray, List.set_cons_zero, List.set_cons_succ]
              refine reg_take (i := 12) (v := ?_) rfl (by kernel_rfl) (by kernel_rfl) (by kernel_rfl) (fun _ _ _ h => h) (Or.inl ⟨by kernel_rfl, ?_⟩) hS ?_
              rotate_left
              · (intro w' hSw; go_simp <;> with_reducible rfl)
              try simp only [List.getElem_toArray, List.getElem_cons_succ, List.getElem_cons_zero, Act.put, List.setIfInBounds_toArray, List.set_cons_zero, List.set_cons_succ]
              refine reg_take (i := 13) (v := ?_) rfl (by kernel_rfl) (by kernel_rfl) (by kernel_rfl) (fun _ _ _ h => h) (Or.inl ⟨by kernel_rfl, ?_⟩) hS ?_
              rotate_left
              · (intro w' hSw; go_simp <;> with_reducible rfl)
              try simp only [List.getElem_toArray, List.getElem_cons_succ, List.getElem_cons_zero, Act.put, List.setIfInBounds_toArray, List.set_cons_zero, List.set_cons_succ]
              refine wpAnyH_done (by kernel_rfl) ?_ _
              try simp only [List.getElem_toArray, List.getElem_cons_succ, List.getElem_cons_zero]
              try simp only [List.getElem_toArray, List.getElem_cons_succ, List.getElem_cons_zero, Act.put, List.setIfInBounds_toArray, List.set_cons_zero, List.set_cons_succ]
              clear hS HD
              have b9 : Below w8.heap.size w8 (w8.alloc (.cells #[] 30)) := (Below.refl _ _).alloc (Nat.le_refl _) _
              have HB9 := Lib.hid b9
              clear b9
              go_wp2_with (at_builtin; refine wpList_append_pts (base := w8.heap.size) (l := []) (l2 := ly) (by first | rfl | kernel_rfl | simp [Region.wanted, yielded]) (.tmp 124) (.tmp 125) rfl rfl rfl ?hown ?hr ?h63 ?hbase ?_)
              case hown => exact World.ownsRow_made w8 #[] 0 (Nat.le_refl _) (by unfold maxLen; omega) rfl
              case hr => exact ⟨_, H8.out.2.2.1.below HB9.out⟩
              case h63 => simp; omega
              case hbase => exact HB9.out.size
              intro v9 w9 hr9 hg9 hx9
              have hb9 := grown_bel HB9.out (World.ownsRow_made (e := 30) (size := 3) w8 #[] 0 (Nat.le_refl _) (by unfold maxLen; omega) rfl) hg9
              have hr9' : PtRow w9 w8.heap.size v9 ly := hr9
              obtain ⟨A9, c9, hv9, -⟩ := hr9'.form
              subst hv9
              have H9 := Lib.hid (And.intro hr9' hb9)
              clear hr9 hg9 hx9 hr9' hb9
              go_wp2_with (at_builtin; refine wpList_append_pts (base := w8.heap.size) (l := ly) (l2 := lz) (by first | rfl | kernel_rfl | simp [Region.wanted, yielded]) (.tmp 126) (.tmp 127) rfl rfl rfl ?hown ?hr ?h63 ?hbase ?_)
              case hown => exact H9.out.1
              case hr => exact ⟨_, H8.out.1.below H9.out.2⟩
              case h63 => omega
              case hbase => exact H9.out.2.size
              intro v10 w10 hr10 hg10 hx10
              have hb10 := grown_bel H9.out.2 H9.out.1 hg10
              rw [← H8.out.2.2.2.2] at hr10
              obtain ⟨A10, c10, hv10, -⟩ := hr10.form
              subst hv10
              have hsame := same_rows_s (H8.out.2.2.2.1.below hb10) hr10
              have H10 := Lib.hid (And.intro hsame (H8.out.2.1.trans (hb10.mono H8.out.2.1.size)))
              clear hr10 hg10 hx10 hb10 hsame
              go_wp2_with fail
              refine H10.out.1.mono ?_
              rintro e w11 ⟨rfl, hb11⟩
              have H11 := Lib.hid (H10.out.2.trans (hb11.mono H10.out.2.size))
              clear hb11
              go_wp2_with fail
              go_roundw
              case rel => exact ⟨i + 1, by omega, by go_num, H11.out⟩
              case measure => simp [intOf] <;> omega
            · have HF := Lib.hid (H5.out.2.1.trans (hb.mono H5.out.2.1.size))
              clear hb
              go_wp2_with fail
              go_ret
              exact ⟨rfl, HF.out⟩
end Go.Proofs.YtopbbicjbjmdnaaGreatDoor
namespace Go.Proofs.YtopbbicjbjmdnaaGreatDoor.segmentSplits
open Go.ChangeShapes Go.WideShapes Go.ChangeAt Go.RowKit
open Go.ChangeMaps (open_string shut_string)
set_option linter.unusedVariables false

theorem own : ownKnob Tryz.prog.godebug = none := by kernel_rfl
theorem laidOut : laidOutB Tryz.prog = true := by kernel_rfl

theorem errAt : Tryz.prog.globalNamed "errors.errorType" = some 0 := by kernel_rfl
theorem rtAt : (Tryz.prog.cutTypes.find? (·.1 == "internal/reflectlite.rtype")).map (·.2) = some 131 := by kernel_rfl
theorem oneRow : ((List.range Tryz.prog.types.size).filter fun t => Tryz.prog.rowNamed t [101, 114, 114, 111, 114]) = [69] := by kernel_rfl
/-- What the row's list gives: the variable's one cell. -/
theorem herr {W : World} (h : laidMetH Tryz.prog Rows.segmentSplitsRow.laid W) : V.HErr W := by
  have h' : laidMet Tryz.prog [] W ∧ handlesMet Tryz.prog Rows.segmentSplitsRow.laid W := h
  obtain ⟨name, u, ty, e1, e2, e3, e4, e5⟩ := h'.2 _ (List.mem_singleton.2 rfl)
  have en : name = [101, 114, 114, 111, 114] := (Option.some.inj e1).symm
  subst en
  obtain rfl := Option.some.inj (rtAt.symm.trans e2)
  have hm : ty ∈ (List.range Tryz.prog.types.size).filter fun t => Tryz.prog.rowNamed t [101, 114, 114, 111, 114] := List.mem_filter.2 ⟨List.mem_range.2 e3, e4⟩
  rw [oneRow] at hm
  obtain rfl := List.mem_singleton.1 hm
  have hh : typeHandle Tryz.prog 69 = .pointer (some ⟨2, 69, none⟩) := by kernel_rfl
  rw [hh] at e5
  have := World.var?_cell errAt e5 0
  simpa [V.HErr] using this
/-- A world that meets the condition: the settled one, the variable's cell laid. -/
noncomputable def laidWorld (os : Os) : World :=
  let w0 := World.holding Tryz.prog os ⟨#[], #[], []⟩
  { w0 with heap := w0.heap.modify 0 fun
      | .cells _ t frozen => .cells #[.iface 131 (.agg #[.pointer (some ⟨2, 69, none⟩)])] t frozen
      | o => o }
theorem laid_met (os : Os) (args : Array Value) : laidMetH Tryz.prog Rows.segmentSplitsRow.laid ((laidWorld os).forCall (fun _ _ => 0) ⟨#[], args, []⟩).memory :=
  laidMetH_of_parts (laidMet_nil _ _) (by kernel_rfl)
theorem reads (os : Os) {H : Type} (enc : TypeId × Value → H) : ∃ places, DataW.whole enc Tryz.prog ((laidWorld os).forCall (fun _ _ => 0) ⟨#[], #[.slice none 0 0, .agg #[.int .i64 0, .int .i64 0], .int .i64 0], []⟩).memory Tryz.f6.params.toList Rows.segmentSplitsSpec.vars false #[.slice none 0 0, .agg #[.int .i64 0, .int .i64 0], .int .i64 0].toList 8 = some ([.nil, .agg [.lit (.int .i64 0), .lit (.int .i64 0)], .lit (.int .i64 0)], [], places) :=
  ⟨[], by kernel_rfl⟩

set_option maxRecDepth 100000 in
theorem lifted (os : Os) (started : os.Started) (H : Type) (enc : TypeId × Value → H) (F : Stop.Interp) :
    ReturnsInHanded {} Tryz.checked os 6 .any ((OpenSpec.ofChange Rows.segmentSplitsSpec).preRow enc Tryz.prog Tryz.f6 Rows.segmentSplitsRow.domain false Rows.segmentSplitsRow.laid) (((OpenSpec.ofChange Rows.segmentSplitsSpec).at F).post enc Tryz.prog Tryz.f6 false true false false) := by
  obtain ⟨places, hx⟩ := reads os enc
  refine returnsInHanded_of_row (C := Tryz.checked) (s := OpenSpec.ofChange Rows.segmentSplitsSpec) own started (by kernel_rfl) Tryz.func6
    (witness_row_at (enc := enc) (C := Tryz.checked) false (laidWorld os) #[.slice none 0 0, .agg #[.int .i64 0, .int .i64 0], .int .i64 0] rfl (by kernel_rfl) (by kernel_rfl) (by kernel_rfl)
      (OpenSpec.preRow_of_cond 8 hx (by kernel_rfl) (fun k hk => by cases hk) (by kernel_rfl) (laid_met os _))) ?_
  intro W base args ds gs before hval0 hW hcnd _ hsz0 hL _ _
  have hErr := herr hL
  have hval : ∀ (j : Nat) t v, Tryz.f6.params[j]? = some t → args[j]? = some v → Value.okWide Tryz.prog W .any base t v := hval0
  have hW' := hW
  obtain ⟨p, q, hA0, hV, rfl, hfz, hnd⟩ := hW
  have hA : DataW.TrodAll enc Tryz.prog W 0 (fun _ => true) true Tryz.f6.params.toList args.toList ds p := hA0
  have hsz : (DataW.weightsEach Tryz.prog (Tryz.f6.params.toList ++ Rows.segmentSplitsSpec.plain.varTypes Tryz.prog) (ds ++ gs)).all (· ≤ reachBytes) = true := hsz0
  rw [Tryz.params6] at hA hval hsz
  obtain ⟨v0, vs0, d0, ds0, p0, q0, hargs, rfl, rfl, h0, r0⟩ := trodAll_cons hA
  obtain ⟨v1, vs1, d1, ds1, p1, q1, rfl, rfl, rfl, h1, r1⟩ := trodAll_cons r0
  obtain ⟨v2, vs2, d2, ds2, p2, q2, rfl, rfl, rfl, h2, r2⟩ := trodAll_cons r1
  obtain ⟨rfl, rfl, rfl⟩ := trodAll_nil r2
  obtain rfl : args = #[v0, v1, v2] := by cases args; simp_all
  obtain ⟨rfl, rfl⟩ := trodVars_none hV
  obtain ⟨a0, len0, cap0, rfl⟩ := okWide_slice Tryz.underlying22 (hval 0 22 v0 rfl rfl)
  have k0 := h0
  have lt0 : ∀ x ∈ p0, x.block < W.heap.size := by obtain ⟨m, hm⟩ := k0; exact DataW.trod_lt m _ _ _ hm
  obtain ⟨nm0, pa0, pn0, pc0, pf0, w0, s0⟩ : ∃ nm pa pn pc pf, PartsAt W a0 len0 nm pa pn pc pf ∧ Reach nm pn len0 := by
    obtain ⟨fuel, hf⟩ := h0
    exact open_parts hf (fun n hn => of_decide_eq_true (List.all_eq_true.1 hsz n (DataW.weights_mem_each (j := 0) (t := 22) rfl rfl n hn)))
  have k1 := h1
  have lt1 : ∀ x ∈ p1, x.block < W.heap.size := by obtain ⟨m, hm⟩ := k1; exact DataW.trod_lt m _ _ _ hm
  obtain ⟨a1, b1, rfl⟩ := open_pair (hval 1 42 v1 rfl rfl) h1
  obtain ⟨a2, rfl, rfl, rfl, w2⟩ := open_int Tryz.underlying3 (hval 2 3 v2 rfl rfl) h2
  clear hA0 hval0
  refine (segmentSplits_walk a0 len0 cap0 nm0 pa0 pn0 pc0 pf0 a1 b1 a2 W w0 w2 s0 hErr).mono fun e W' ⟨he, bel⟩ => ?_
  subst he
  exact ⟨_, rfl, _, _, _, [], _, [], hW', trodAll_mk1 (shut_bool Tryz.underlying4 _), (trodAll_cons_mk (Below.trod laidOut (by kernel_rfl) (of_decide_eq_true (by kernel_rfl)) k0 bel lt0) (trodAll_cons_mk (Below.trod laidOut (by kernel_rfl) (of_decide_eq_true (by kernel_rfl)) k1 bel lt1) (trodAll_cons_mk (shut_int Tryz.underlying3 w2) trodAll_mk0))), rfl, bel.frame _, fun h => by cases h⟩

theorem said : Rows.SegmentSplitsSaid :=
  OpenClaim.holds_of_cond 6 Tryz.f6 rfl rfl rfl rfl rfl rfl rfl ⟨rfl, rfl, rfl, rfl, rfl⟩ rfl rfl rfl rfl rfl (by kernel_rfl) Tryz.func6 (by kernel_rfl)
    (of_decide_eq_true (by kernel_rfl)) (by unfold Func.isWrapper; first | (rw [if_pos (by decide +kernel)]; kernel_rfl) | (rw [if_neg (by decide +kernel)]; exact ⟨rfl, rfl⟩))
    (fun os started H enc _ F => by rw [OpenClaim.pre_eq_preRow]; exact lifted os started H enc F)

/-- No parameter wants a stand-in; the program's own looks are off: what the card asks. -/
theorem plainArgs (f : FuncId) (fn : Func) (hf : Tryz.pinned.checked.prog.funcNamed "tidemill/tidemilllaw14.SegmentSplits" = some f) (hfn : Tryz.pinned.checked.prog.funcs[f]? = some fn) :
    true = Tryz.pinned.checked.prog.looks [] ∧ ∀ (j : Nat) t, fn.params[j]? = some t → Tryz.pinned.checked.prog.wantsStandIn t = false := by
  obtain rfl : f = 6 := Option.some.inj ((show Tryz.prog.funcNamed "tidemill/tidemilllaw14.SegmentSplits" = some 6 by kernel_rfl).symm.trans hf) |>.symm
  obtain rfl : fn = Tryz.f6 := (Option.some.inj (Tryz.func6.symm.trans hfn)).symm
  refine ⟨by kernel_rfl, fun j t ht => ?_⟩
  rw [Tryz.params6] at ht
  have hall : ([22, 42, 3] : List TypeId).all (fun t => Tryz.prog.wantsStandIn t == false) = true := by kernel_rfl
  have hm : t ∈ ([22, 42, 3] : List TypeId) := by simpa using Array.mem_of_getElem? ht
  have hr : Tryz.prog.wantsStandIn t = false := by simpa using List.all_eq_true.1 hall t hm
  exact hr

theorem proved : Rows.SegmentSplitsCardSaid :=
  Claim7.holds_tied_plain_at .later [] _ _ _ _ said (fun _ h => by cases h) (by kernel_rfl) (fun _ h => by cases h) segmentSplits_row_tie rfl ⟨rfl, rfl⟩ (by kernel_rfl) rfl plainArgs (by kernel_rfl)
#print axioms proved
end Go.Proofs.YtopbbicjbjmdnaaGreatDoor.segmentSplits
