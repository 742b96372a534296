/-
  Proved: what is decoded is encoded as it was: points have one block alone.
  No condition beyond those of the given row. (The frame follows the kit's proof-skeleton; the walk is the text ColumnOneW of this claim.)
-/
import Derived.Test.YtboecnakndpgfaaDoorJ12
import Derived.Test.YtboecnakndpgfaaDoorCards
import Derived.Test.YtboecnakndpgfaaDoorTie
import Derived.WalkKit
import Derived.ProofKit
import Derived.OpenShut
import Derived.ShutString
import Derived.ChangeOld
import Derived.Below
import Derived.SizedLaws
import Derived.ChangeVars
import Derived.Lib.SmallJoins
import Derived.LaidLaws
import Derived.LaidHandle
import Derived.Stop.Joined
import Derived.Deep.DeepHandedRow
namespace Go.Proofs.YtboecnakndpgfaaDoor
open Go.RowKit
set_option linter.unusedVariables false
set_option linter.unusedSimpArgs false
theorem colV_three : colV (fun _ => (⟨3, 0, 0⟩ : Pt)) 1 = true := by unfold colV colAll colAll colOk colT; decide
theorem colV_zero (f : Nat → Pt) : colV f 0 = false := by unfold colV; simp
set_option maxRecDepth 100000 in
set_option maxHeartbeats 4000000 in
theorem columnOne_walk (a0 : Option Addr) (len0 cap0 : Nat) (z0 : List Int) (w : World) (w0 : IsRow .u8 w a0 len0 cap0 z0) (hv : V.HErr w) :
    Calls Tryd.prog 6 #[.slice a0 len0 cap0] w fun e w' => e = .returned (.bool true) ∧ Below w.heap.size w w' := by
  obtain ⟨n, hn⟩ : ∃ n, n = min len0 3000 := ⟨_, rfl⟩
  obtain ⟨bs, hxl, hxb, hxs⟩ := w0.bytes n (by omega)
  have l0 := w0.le
  clear w0
  obtain ⟨l0a, l0b, -⟩ := l0
  have HF := Lib.hid (And.intro hxl (And.intro hxs (And.intro hxb (And.intro hn hv))))
  have hn3 : n ≤ 3000 := by omega
  have hnc : n ≤ cap0 := by omega
  clear hxl hxb hxs hn hv
  go_enter Tryd.func6, Tryd.ntmps6
  go_upto_if 8 with (fail)
  go_cut [0] (fun s0 wx => s0 = .slice a0 n cap0 ∧ w = wx)
  case first =>
    by_cases h : 3000 < len0
    · obtain ⟨b, off, ha, -, -⟩ := HF.out.2.1 (by have := HF.out.2.2.2.1; omega)
      subst ha
      go_wp2_with fail
      go_meet
      have : n = 3000 := by have := HF.out.2.2.2.1; omega
      subst this
      exact ⟨rfl, rfl⟩
    · go_wp2_with fail
      go_meet
      have : n = len0 := by have := HF.out.2.2.2.1; omega
      subst this
      exact ⟨rfl, rfl⟩
  case rest =>
    obtain ⟨rfl, rfl⟩ := hcut
    go_wp2_with fail
    refine (cdecode_any _ _ _ _ _ bs HF.out.1 HF.out.2.1 HF.out.2.2.1 (by omega) hnc HF.out.2.2.2.2).mono ?_
    rintro e w1 ⟨hk1, ⟨A1, m, c1, f, rfl, hmc, hsl, henc, hi⟩ | ⟨rfl, hne⟩⟩
    · have hm := enc_n henc
      have hL := enc_L henc
      have H1 := Lib.hid (And.intro hsl (And.intro hL hk1))
      clear hsl hL hk1 henc hi
      go_wp2_with fail
      refine (cencode_any _ _ _ f _ _ H1.out.1 (by omega)).mono ?_
      rw [H1.out.2.1]
      rintro e w2 ⟨A2, c2, rfl, ho2, hk2⟩
      have hcx := conv_sl (P := Tryd.prog) (c := c2) 22 5 9 Tryd.underlying22 Tryd.underlying5 Tryd.underlying9 (bs := bs) rfl (V.ow_sl ho2)
      have hcy := conv_sl (P := Tryd.prog) (c := cap0) 22 5 9 Tryd.underlying22 Tryd.underlying5 Tryd.underlying9 (bs := bs) HF.out.1 (HF.out.2.1.keeps (H1.out.2.2.trans' hk2) (fun _ _ h => h))
      have H2 := Lib.hid (H1.out.2.2.trans' hk2)
      clear ho2 hk2
      go_wp2_with fail
      go_ret
      exact ⟨rfl, H2.out.to_below⟩
    · have H1 := Lib.hid hk1
      clear hk1 hne
      go_wp2_with fail
      refine (cvalid_any none 0 0 (fun _ => ⟨0, 0, 0⟩) (fun _ => True) _ (SlP.nil _ _ _ _) (by omega)).mono ?_
      rintro e w2 ⟨rfl, hb2⟩
      rw [colV_zero]
      have H2 := Lib.hid (H1.out.trans' (Keeps.of_below hb2))
      clear hb2
      go_wp2_with fail
      refine (cvalid_any _ 1 1 (fun _ => ⟨3, 0, 0⟩) _ _ (slp_one _ _ ⟨3, 0, 0⟩) (by omega)).mono ?_
      rintro e w3 ⟨rfl, hb3⟩
      rw [colV_three]
      have H3 := Lib.hid ((H2.out.alloc _).trans' (Keeps.of_below hb3))
      clear hb3
      go_wp2_with fail
      go_ret
      exact ⟨rfl, H3.out.to_below⟩
end Go.Proofs.YtboecnakndpgfaaDoor
namespace Go.Proofs.YtboecnakndpgfaaDoor.columnOne
open Go.ChangeShapes Go.WideShapes Go.ChangeAt Go.RowKit
open Go.ChangeMaps (open_string shut_string)
set_option linter.unusedVariables false

theorem own : ownKnob Tryd.prog.godebug = none := by kernel_rfl
theorem laidOut : laidOutB Tryd.prog = true := by kernel_rfl

theorem errAt : Tryd.prog.globalNamed "errors.errorType" = some 0 := by kernel_rfl
theorem rtAt : (Tryd.prog.cutTypes.find? (·.1 == "internal/reflectlite.rtype")).map (·.2) = some 164 := by kernel_rfl
theorem oneRow : ((List.range Tryd.prog.types.size).filter fun t => Tryd.prog.rowNamed t [101, 114, 114, 111, 114]) = [125] := by kernel_rfl
/-- What the row's list gives: the variable's one cell. -/
theorem herr {W : World} (h : laidMetH Tryd.prog Rows.columnOneRow.laid W) : V.HErr W := by
  have h' : laidMet Tryd.prog [] W ∧ handlesMet Tryd.prog Rows.columnOneRow.laid W := h
  obtain ⟨name, u, ty, e1, e2, e3, e4, e5⟩ := h'.2 _ (List.mem_singleton.2 rfl)
  have en : name = [101, 114, 114, 111, 114] := (Option.some.inj e1).symm
  subst en
  obtain rfl := Option.some.inj (rtAt.symm.trans e2)
  have hm : ty ∈ (List.range Tryd.prog.types.size).filter fun t => Tryd.prog.rowNamed t [101, 114, 114, 111, 114] := List.mem_filter.2 ⟨List.mem_range.2 e3, e4⟩
  rw [oneRow] at hm
  obtain rfl := List.mem_singleton.1 hm
  have hh : typeHandle Tryd.prog 125 = .pointer (some ⟨1, 125, none⟩) := by kernel_rfl
  rw [hh] at e5
  have := World.var?_cell errAt e5 0
  simpa [V.HErr] using this
/-- A world that meets the condition: the settled one, the variable's cell laid. -/
noncomputable def laidWorld (os : Os) : World :=
  let w0 := World.holding Tryd.prog os ⟨#[], #[], []⟩
  { w0 with heap := w0.heap.modify 0 fun
      | .cells _ t frozen => .cells #[.iface 164 (.agg #[.pointer (some ⟨1, 125, none⟩)])] t frozen
      | o => o }
theorem laid_met (os : Os) (args : Array Value) : laidMetH Tryd.prog Rows.columnOneRow.laid ((laidWorld os).forCall (fun _ _ => 0) ⟨#[], args, []⟩).memory :=
  laidMetH_of_parts (laidMet_nil _ _) (by kernel_rfl)
theorem reads (os : Os) {H : Type} (enc : TypeId × Value → H) : ∃ places, DataW.whole enc Tryd.prog ((laidWorld os).forCall (fun _ _ => 0) ⟨#[], #[.slice none 0 0], []⟩).memory Tryd.f6.params.toList Rows.columnOneSpec.vars false #[.slice none 0 0].toList 8 = some ([.nil], [], places) :=
  ⟨[], by kernel_rfl⟩

set_option maxRecDepth 100000 in
theorem lifted (os : Os) (started : os.Started) (H : Type) (enc : TypeId × Value → H) (F : Stop.Interp) :
    ReturnsInHanded {} Tryd.checked os 6 .any ((OpenSpec.ofChange Rows.columnOneSpec).preRow enc Tryd.prog Tryd.f6 Rows.columnOneRow.domain false Rows.columnOneRow.laid) (((OpenSpec.ofChange Rows.columnOneSpec).at F).post enc Tryd.prog Tryd.f6 false true false false) := by
  obtain ⟨places, hx⟩ := reads os enc
  refine returnsInHanded_of_row (C := Tryd.checked) (s := OpenSpec.ofChange Rows.columnOneSpec) own started (by kernel_rfl) Tryd.func6
    (witness_row_at (enc := enc) (C := Tryd.checked) false (laidWorld os) #[.slice none 0 0] rfl (by kernel_rfl) (by kernel_rfl) (by kernel_rfl)
      (OpenSpec.preRow_of_cond 8 hx (by kernel_rfl) (fun k hk => by cases hk) (by kernel_rfl) (laid_met os _))) ?_
  intro W base args ds gs before hval0 hW hcnd _ hsz0 hL _ _
  have hErr := herr hL
  have hval : ∀ (j : Nat) t v, Tryd.f6.params[j]? = some t → args[j]? = some v → Value.okWide Tryd.prog W .any base t v := hval0
  have hW' := hW
  obtain ⟨p, q, hA0, hV, rfl, hfz, hnd⟩ := hW
  have hA : DataW.TrodAll enc Tryd.prog W 0 (fun _ => true) true Tryd.f6.params.toList args.toList ds p := hA0
  rw [Tryd.params6] at hA hval
  obtain ⟨v0, vs0, d0, ds0, p0, q0, hargs, rfl, rfl, h0, r0⟩ := trodAll_cons hA
  obtain ⟨rfl, rfl, rfl⟩ := trodAll_nil r0
  obtain rfl : args = #[v0] := by cases args; simp_all
  obtain ⟨rfl, rfl⟩ := trodVars_none hV
  obtain ⟨a0, len0, cap0, rfl⟩ := okWide_slice Tryd.underlying22 (hval 0 22 v0 rfl rfl)
  have k0 := h0
  have lt0 : ∀ x ∈ p0, x.block < W.heap.size := by obtain ⟨m, hm⟩ := k0; exact DataW.trod_lt m _ _ _ hm
  obtain ⟨z0, w0⟩ : ∃ zs, IsRow .u8 W a0 len0 cap0 zs := by
    obtain ⟨fuel, hf⟩ := h0
    rcases open_ints Tryd.underlying22 Tryd.underlying5 (by kernel_rfl) hf with ⟨hcs, _⟩ | ⟨x, l, c, zs, hcs, _, hl, hm, hz, _, hcell, hwz⟩
    · simp [Value.cells] at hcs
      obtain ⟨rfl, rfl, rfl⟩ := hcs
      exact ⟨[], .inl ⟨rfl, rfl, rfl, rfl⟩⟩
    · simp [Value.cells] at hcs
      obtain ⟨rfl, rfl, rfl⟩ := hcs
      exact ⟨zs, .inr ⟨_, rfl, hl, hm, by simpa using hz, hcell, hwz⟩⟩
  clear hA0 hval0
  refine (columnOne_walk a0 len0 cap0 z0 W w0 hErr).mono fun e W' ⟨he, bel⟩ => ?_
  subst he
  exact ⟨_, rfl, _, _, _, [], _, [], hW', trodAll_mk1 (shut_bool Tryd.underlying4 _), (trodAll_cons_mk (Below.trod laidOut (by kernel_rfl) (of_decide_eq_true (by kernel_rfl)) k0 bel lt0) trodAll_mk0), rfl, bel.frame _, fun h => by cases h⟩

theorem said : Rows.ColumnOneSaid :=
  OpenClaim.holds_of_cond 6 Tryd.f6 rfl rfl rfl rfl rfl rfl rfl ⟨rfl, rfl, rfl, rfl, rfl⟩ rfl rfl rfl rfl rfl (by kernel_rfl) Tryd.func6 (by kernel_rfl)
    (of_decide_eq_true (by kernel_rfl)) (by unfold Func.isWrapper; first | (rw [if_pos (by decide +kernel)]; kernel_rfl) | (rw [if_neg (by decide +kernel)]; exact ⟨rfl, rfl⟩))
    (fun os started H enc _ F => by rw [OpenClaim.pre_eq_preRow]; exact lifted os started H enc F)

/-- No parameter wants a stand-in; the program's own looks are off: what the card asks. -/
theorem plainArgs (f : FuncId) (fn : Func) (hf : Tryd.pinned.checked.prog.funcNamed "tidemill/tidemilllaw13.ColumnOne" = some f) (hfn : Tryd.pinned.checked.prog.funcs[f]? = some fn) :
    true = Tryd.pinned.checked.prog.looks [] ∧ ∀ (j : Nat) t, fn.params[j]? = some t → Tryd.pinned.checked.prog.wantsStandIn t = false := by
  obtain rfl : f = 6 := Option.some.inj ((show Tryd.prog.funcNamed "tidemill/tidemilllaw13.ColumnOne" = some 6 by kernel_rfl).symm.trans hf) |>.symm
  obtain rfl : fn = Tryd.f6 := (Option.some.inj (Tryd.func6.symm.trans hfn)).symm
  refine ⟨by kernel_rfl, fun j t ht => ?_⟩
  rw [Tryd.params6] at ht
  have hall : ([22] : List TypeId).all (fun t => Tryd.prog.wantsStandIn t == false) = true := by kernel_rfl
  have hm : t ∈ ([22] : List TypeId) := by simpa using Array.mem_of_getElem? ht
  have hr : Tryd.prog.wantsStandIn t = false := by simpa using List.all_eq_true.1 hall t hm
  exact hr

theorem proved : Rows.ColumnOneCardSaid :=
  Claim7.holds_tied_plain_at .later [] _ _ _ _ said (fun _ h => by cases h) (by kernel_rfl) (fun _ h => by cases h) columnOne_row_tie rfl ⟨rfl, rfl⟩ (by kernel_rfl) rfl plainArgs (by kernel_rfl)
#print axioms proved
end Go.Proofs.YtboecnakndpgfaaDoor.columnOne
