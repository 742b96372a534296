/-
  Proved: Any parts are the document's file, or none.
  No condition beyond those of the given row. (The frame follows the kit's proof-skeleton; the walk is the text SegmentBuildsW of this claim.)
-/
import Derived.Test.YtopbbicjbjmdnaaJ10
import Derived.Test.YtopbbicjbjmdnaaJ02
import Derived.Test.YtopbbicjbjmdnaaRows
import Derived.WalkKit
import Derived.ProofKit
import Derived.OpenShut
import Derived.ShutString
import Derived.ChangeOld
import Derived.Below
import Derived.SizedLaws
namespace Go.Proofs.Ytopbbicjbjmdnaa
open Go.RowKit
set_option maxRecDepth 100000
set_option linter.unusedVariables false
set_option linter.unusedSimpArgs false
def oneNm : Nat → ByteArray := fun _ => ⟨#[97]⟩
def onePf : Nat → Nat → Pt := fun _ _ => ⟨1, 0, 0⟩
def onePn : Nat → Nat := fun _ => 1
theorem one_v : (namesOk oneNm 1 && (decide (0 < 1) && sV onePf onePn 1)) = true := by kernel_rfl
theorem one_f : (sF oneNm onePf onePn 1 1).length = 8 := by kernel_rfl
theorem one_o : (sO onePf onePn 1).length = 37 := by kernel_rfl
theorem one_b : sB oneNm onePf onePn 1 = (sO onePf onePn 1 ++ F.sealL 5 (sF oneNm onePf onePn 1 1) ++ F.sealL 6 (four (F.sealL 5 (sF oneNm onePf onePn 1 1)).length), 0) := by
  unfold sB
  rw [if_pos one_v, if_neg]
  rw [F.sealL_length, one_f, one_o]
  omega
theorem one_e : (sB oneNm onePf onePn 1).2 = 0 := by rw [one_b]
theorem one_l : (sB oneNm onePf onePn 1).1.length = 67 := by
  rw [one_b]
  show (sO onePf onePn 1 ++ F.sealL 5 (sF oneNm onePf onePn 1 1) ++ F.sealL 6 (four (F.sealL 5 (sF oneNm onePf onePn 1 1)).length)).length = 67
  rw [List.length_append, List.length_append, F.sealL_length, F.sealL_length, one_o, one_f]
  rfl
theorem one_small : Small oneNm onePf onePn 1 := few_small (fun j i => ⟨by unfold I64 onePf; simp, by unfold I64 onePf; simp, by unfold I64 onePf; simp⟩) (by decide)
/-- The one part in two new blocks. -/
theorem one_at (w : World) : PartsAt ((w.alloc (.cells #[.int .i64 1, .int .i64 0, .int .i64 0] 33)).alloc (.cells #[.string ⟨#[97]⟩, .slice (some ⟨w.heap.size, 0, none⟩) 1 1] 36)) (some ⟨w.heap.size + 1, 0, none⟩) 1 oneNm (fun _ => some ⟨w.heap.size, 0, none⟩) onePn (fun _ => 1) onePf := by
  obtain ⟨x, hx⟩ : ∃ x, x = w.heap.size := ⟨_, rfl⟩
  have ho := Own.own2 w hx 33 #[.int .i64 1, .int .i64 0, .int .i64 0] 36 #[.string ⟨#[97]⟩, .slice (some ⟨w.heap.size, 0, none⟩) 1 1]
  have l0 := ho.lt _ (List.mem_cons_self)
  have l1 := ho.lt _ (List.mem_cons_of_mem _ List.mem_cons_self)
  rw [← hx] at l0 l1 ⊢
  rw [← hx] at ho
  refine ⟨fun _ => ⟨x + 1, 0, rfl, l1, fun j hj => ?_⟩, fun j hj h0 => ?_, fun j hj => ⟨Nat.le_refl _, by show (1 : Nat) ≤ _; omega⟩, fun j i => ⟨by unfold I64 onePf; simp, by unfold I64 onePf; simp, by unfold I64 onePf; simp⟩, fun j hj => by show (1 : Nat) ≤ _; omega⟩
  · obtain rfl : j = 0 := by omega
    exact ⟨ho.cell 1 0 rfl rfl, ho.cell 1 1 rfl rfl⟩
  · refine ⟨x, 0, rfl, l0, fun i hi => ?_⟩
    obtain rfl : i = 0 := by unfold onePn at hi; omega
    exact ⟨ho.cell 0 0 rfl rfl, ho.cell 0 1 rfl rfl, ho.cell 0 2 rfl rfl⟩
set_option maxHeartbeats 4000000 in
theorem segmentBuilds_walk (a : Option Addr) (k c : Nat) (nm : Nat → ByteArray) (pa : Nat → Option Addr) (pn pc : Nat → Nat) (pf : Nat → Nat → Pt) (w : World) (h : PartsAt w a k nm pa pn pc pf) (hr : Reach nm pn k) :
    Calls Try.prog 3 #[.slice a k c] w fun e w' => e = .returned (.bool true) ∧ Below w.heap.size w w' := by
  have H0 := Lib.hid (And.intro h hr)
  clear h hr
  go_enter Try.func3, Try.ntmps3
  go_wp2_with fail
  refine (few_any w a k c nm pa pn pc pf H0.out.1 H0.out.2).mono ?_
  rintro e w1 ⟨rfl, hb1⟩
  cases hf : decide (fewN nm pn k k < 2500) with
  | false =>
    have HB := Lib.hid hb1
    clear hf hb1
    go_wp2_with fail
    go_ret
    exact ⟨rfl, HB.out⟩
  | true =>
    have hs := few_small (pf := pf) H0.out.1.ok (of_decide_eq_true hf)
    have hk := hs.kb
    have HS := Lib.hid (And.intro hs (And.intro hb1 (H0.out.1.below hb1)))
    clear hf hs hb1
    go_wp2_with fail
    refine (build_any w1 a k c nm pa pn pc pf HS.out.2.2 HS.out.1).mono ?_
    rintro e w2 ⟨v2, rfl, ho2, hb2⟩
    obtain ⟨L, hL⟩ : ∃ L, L = (sB nm pf pn k).1 := ⟨_, rfl⟩
    obtain ⟨er, her⟩ : ∃ e, e = (sB nm pf pn k).2 := ⟨_, rfl⟩
    rw [← hL] at ho2
    rw [← her]
    obtain ⟨l, hl⟩ : ∃ l, l = L.length := ⟨_, rfl⟩
    rw [← hl] at ho2
    obtain ⟨A2, c2, hv2, -, -⟩ := own_form ho2
    subst hv2
    have HL := Lib.hid (And.intro hL (And.intro her hl.symm))
    have H2 := Lib.hid (And.intro ho2 (And.intro (HS.out.2.1.trans (hb2.mono HS.out.2.1.size)) (HS.out.2.2.below hb2)))
    clear hL her hl ho2 hb2
    go_wp2_with fail
    refine (parts_any w2 a k c nm pa pn pc pf H2.out.2.2 hk).mono ?_
    rintro e w3 ⟨A3, c3, rfl, hp3, hb3⟩
    have H3 := Lib.hid (And.intro (V.own_later H2.out.1 hb3) (And.intro (H2.out.2.1.trans (hb3.mono H2.out.2.1.size)) hp3))
    clear hp3 hb3
    go_wp2_with fail
    refine (rbuild_any w3 A3 k c3 nm pa pn pc pf H3.out.2.2 HS.out.1).mono ?_
    rintro e w4 ⟨v4, rfl, ho4, hb4⟩
    rw [← HL.out.1] at ho4
    rw [← HL.out.2.1]
    rw [HL.out.2.2] at ho4
    obtain ⟨A4, c4, hv4, -, -⟩ := own_form ho4
    subst hv4
    have H4 := Lib.hid (And.intro (V.own_later H3.out.1 hb4) (And.intro ho4 (H3.out.2.1.trans (hb4.mono H3.out.2.1.size))))
    clear ho4 hb4
    go_upto_region 5 with (fail)
    go_wp2_with fail
    have hal : Below w4.heap.size w4 ((w4.alloc (.cells #[.int .i64 1, .int .i64 0, .int .i64 0] 33)).alloc (.cells #[.string ⟨#[97]⟩, .slice (some ⟨w4.heap.size, 0, none⟩) 1 1] 36)) := ((Below.refl _ _).alloc (Nat.le_refl _) _).alloc (by simp) _
    have hP := build_any _ _ 1 1 oneNm _ onePn _ onePf (one_at w4) one_small
    have HAL := Lib.hid hal
    clear hal
    refine hP.mono ?_
    clear hP
    rintro e w5 ⟨v5, rfl, ho5, hb5⟩
    rw [one_e]
    rw [one_l] at ho5
    obtain ⟨A5, c5, hv5, -, -⟩ := own_form ho5
    subst hv5
    have hb := HAL.out.trans (hb5.mono HAL.out.size)
    have ho2 := V.own_later H4.out.1 hb
    have ho4 := V.own_later H4.out.2.1 hb
    have q2 := conv_own (P := Try.prog) (c := c2) 24 5 9 Try.underlying24 Try.underlying5 Try.underlying9 HL.out.2.2 ho2
    have q4 := conv_own (P := Try.prog) (c := c4) 24 5 9 Try.underlying24 Try.underlying5 Try.underlying9 HL.out.2.2 ho4
    have H5 := Lib.hid (H4.out.2.2.trans (hb.mono H4.out.2.2.size))
    clear ho5 hb5 hb ho2 ho4
    go_wp2_with fail
    go_ret
    exact ⟨rfl, H5.out⟩
end Go.Proofs.Ytopbbicjbjmdnaa
namespace Go.Proofs.Ytopbbicjbjmdnaa.segmentBuilds
open Go.ChangeShapes Go.WideShapes Go.ChangeAt Go.RowKit
open Go.ChangeMaps (open_string shut_string)
set_option linter.unusedVariables false

theorem own : ownKnob Try.prog.godebug = none := by kernel_rfl
theorem laidOut : laidOutB Try.prog = true := by kernel_rfl

set_option maxRecDepth 100000 in
theorem lifted (os : Os) (started : os.Started) (H : Type) (enc : TypeId × Value → H) :
    ReturnsInHanded {} Try.checked os 3 .any (Rows.segmentBuildsSpec.pre6 enc Try.prog Try.f3 Rows.segmentBuildsRow.domain false) (Rows.segmentBuildsSpec.post enc Try.prog Try.f3 false true false false) := by
  refine returnsInHanded_of_change_sized (C := Try.checked) own started (by kernel_rfl) Try.func3
    (ChangeSpec.witness6 (enc := enc) (C := Try.checked) false ⟨#[], #[.slice none 0 0], []⟩ 8 (by kernel_rfl) (by kernel_rfl) (by kernel_rfl) (by kernel_rfl)) ?_
  intro W base args ds gs before hval0 hW hcnd hsz0 _
  have hval : ∀ (j : Nat) t v, Try.f3.params[j]? = some t → args[j]? = some v → Value.okWide Try.prog W .any base t v := hval0
  have hW' := hW
  obtain ⟨p, q, hA0, hV, rfl, hfz, hnd⟩ := hW
  have hA : DataW.TrodAll enc Try.prog W 0 (fun _ => true) true Try.f3.params.toList args.toList ds p := hA0
  have hsz : (DataW.weightsEach Try.prog (Try.f3.params.toList ++ Rows.segmentBuildsSpec.plain.varTypes Try.prog) (ds ++ gs)).all (· ≤ reachBytes) = true := hsz0
  rw [Try.params3] at hA hval hsz
  obtain ⟨v0, vs0, d0, ds0, p0, q0, hargs, rfl, rfl, h0, r0⟩ := trodAll_cons hA
  obtain ⟨rfl, rfl, rfl⟩ := trodAll_nil r0
  obtain rfl : args = #[v0] := by cases args; simp_all
  obtain ⟨rfl, rfl⟩ := trodVars_none hV
  obtain ⟨a0, len0, cap0, rfl⟩ := okWide_slice Try.underlying22 (hval 0 22 v0 rfl rfl)
  have k0 := h0
  have lt0 : ∀ x ∈ p0, x.block < W.heap.size := by obtain ⟨m, hm⟩ := k0; exact DataW.trod_lt m _ _ _ hm
  obtain ⟨nm0, pa0, pn0, pc0, pf0, w0, s0⟩ : ∃ nm pa pn pc pf, PartsAt W a0 len0 nm pa pn pc pf ∧ Reach nm pn len0 := by
    obtain ⟨fuel, hf⟩ := h0
    exact open_parts hf (fun n hn => of_decide_eq_true (List.all_eq_true.1 hsz n (DataW.weights_mem_each (j := 0) (t := 22) rfl rfl n hn)))
  clear hA0 hval0
  refine (segmentBuilds_walk a0 len0 cap0 nm0 pa0 pn0 pc0 pf0 W w0 s0).mono fun e W' ⟨he, bel⟩ => ?_
  subst he
  exact ⟨_, rfl, _, _, _, [], _, [], hW', trodAll_mk1 (shut_bool Try.underlying4 _), (trodAll_cons_mk (Below.trod laidOut (by kernel_rfl) (of_decide_eq_true (by kernel_rfl)) k0 bel lt0) trodAll_mk0), rfl, bel.frame _, fun h => by cases h⟩

theorem over : Rows.segmentBuildsRow.holds Try.pinned (OpenSpec.ofChange Rows.segmentBuildsSpec) :=
  OpenClaim.holds_of_wide 3 Try.f3 rfl rfl rfl rfl rfl rfl rfl ⟨rfl, rfl, rfl, rfl, rfl⟩ rfl rfl rfl rfl rfl (by kernel_rfl) Try.func3 (by kernel_rfl)
    (of_decide_eq_true (by kernel_rfl)) (by unfold Func.isWrapper; first | (rw [if_pos (by decide +kernel)]; kernel_rfl) | (rw [if_neg (by decide +kernel)]; exact ⟨rfl, rfl⟩))
    (fun os started H enc _ => lifted os started H enc)

theorem proved : Rows.SegmentBuildsSaid := over
#print axioms proved
end Go.Proofs.Ytopbbicjbjmdnaa.segmentBuilds
