/-
  Proved: points that are a block's are decoded as they were.
  No condition beyond those of the given row. (The frame follows the kit's proof-skeleton; the walk is the text ColumnBackW of this claim.)
-/
import Derived.Test.YtboecnakndpgfaaDoorJ12
import Derived.Test.YtboecnakndpgfaaDoorCards
import Derived.Test.YtboecnakndpgfaaDoorTie
import Derived.WalkKit
import Derived.ProofKit
import Derived.OpenShut
import Derived.ShutString
import Derived.ChangeOld
import Derived.Below
import Derived.SizedLaws
import Derived.ChangeVars
import Derived.Lib.SmallJoins
import Derived.LaidLaws
import Derived.LaidHandle
import Derived.Stop.Joined
import Derived.Deep.DeepHandedRow
namespace Go.Proofs.YtboecnakndpgfaaDoor
open Go.RowKit
set_option linter.unusedVariables false
set_option linter.unusedSimpArgs false
def two (j : Nat) : Pt := if j = 0 then ⟨1, -7, 0⟩ else ⟨2, 9, 4⟩
theorem two_v : colV two 2 = true := by decide
theorem own_len {w : World} {base n c : Nat} {A : Option Addr} {xs : List Value} (h : w.ownsRow base 5 1 (.slice A n c) n xs) : n ≤ c := by
  obtain ⟨A', c', hv, hc, -⟩ := own_form h
  injection hv with _ _ h3
  omega
set_option maxRecDepth 100000 in
set_option maxHeartbeats 4000000 in
theorem columnBack_walk (a0 : Option Addr) (len0 cap0 : Nat) (f0 : Nat → Pt) (w : World) (w0 : IsPoints w a0 len0 cap0 f0) (hv : V.HErr w) :
    Calls Tryd.prog 4 #[.slice a0 len0 cap0] w fun e w' => e = .returned (.bool true) ∧ Below w.heap.size w w' := by
  obtain ⟨n, hn⟩ : ∃ n, n = min len0 300 := ⟨_, rfl⟩
  obtain ⟨g, hg, hsl⟩ := w0.cut n (by omega)
  have l1 := w0.le
  have l2 := w0.cap_le
  unfold maxLen at l2
  clear w0
  have HF := Lib.hid (And.intro hn (And.intro hg (And.intro hsl hv)))
  have hn3 : n ≤ 300 := by omega
  have hn4 : n ≤ cap0 := by omega
  clear hn hg hsl hv
  go_enter Tryd.func4, Tryd.ntmps4
  go_upto_if 13 with (fail)
  go_cut [0] (fun s0 wx => s0 = .slice a0 n cap0 ∧ w = wx)
  case first =>
    by_cases h : 300 < len0
    · obtain ⟨b, off, ha, -, -⟩ := HF.out.2.2.1 (by have := HF.out.1; omega)
      subst ha
      go_wp2_with fail
      go_meet
      have : n = 300 := by have := HF.out.1; omega
      subst this
      exact ⟨rfl, rfl⟩
    · go_wp2_with fail
      go_meet
      have : n = len0 := by have := HF.out.1; omega
      subst this
      exact ⟨rfl, rfl⟩
  case rest =>
    obtain ⟨rfl, rfl⟩ := hcut
    clear l1
    go_wp2_with fail
    refine (cencode_any _ _ _ g _ _ HF.out.2.2.1 (by omega)).mono ?_
    rintro e w1 ⟨A1, c1, rfl, ho1, hk1⟩
    rcases L_cases g n with ⟨hvv, hL, hE⟩ | ⟨hvv, hL⟩
    · rw [hL] at ho1 ⊢
      obtain ⟨b, hb⟩ : ∃ b, b = F.sealL 3 (colUp g n 3) := ⟨_, rfl⟩
      rw [← hb] at ho1 hE ⊢
      simp only [] at ho1 ⊢
      have H1 := Lib.hid (And.intro ho1 (And.intro hk1 hE))
      have HV := Lib.hid hvv
      clear ho1 hk1 hE hvv hL hb
      go_wp2_with fail
      refine (cvalid_any _ _ _ g _ _ (HF.out.2.2.1.keeps H1.out.2.1) (by omega)).mono ?_
      rintro e w2 ⟨rfl, hb2⟩
      rw [HV.out]
      have k2 := Keeps.of_below (S := fun _ => False) hb2
      have H2 := Lib.hid (And.intro (own_keeps H1.out.1 k2 (fun _ _ h => h)) (H1.out.2.1.trans' k2))
      clear hb2 k2
      go_wp2_with fail
      have hbl := enc_len H1.out.2.2
      refine (cdecode_any _ _ _ _ _ b rfl (V.ow_sl H2.out.1) (getD_of (enc_bytes H1.out.2.2)) (by omega) (own_len H2.out.1) (HF.out.2.2.2.below H2.out.2.to_below)).mono ?_
      rintro e w3 ⟨hk3, ⟨A3, m, c3, f, rfl, hmc, hsl, henc, hi⟩ | ⟨rfl, hne⟩⟩
      · obtain ⟨rfl, hfe⟩ := enc_inj H1.out.2.2 henc (fun j _ => (HF.out.2.1 j).v) (fun j _ => hi j)
        have hs := sameL_of (f := f) (g := g) (n := n) rfl (fun j hj => (hfe j hj).symm)
        have H3 := Lib.hid (And.intro hsl (And.intro hs (H2.out.2.trans' hk3)))
        clear hsl hs hk3 henc hi hfe hbl
        go_wp2_with fail
        refine (same_any _ _ n n _ _ f g _ _ _ H3.out.1 (HF.out.2.2.1.keeps H3.out.2.2) (by omega) (by omega)).mono ?_
        rintro e w4 ⟨rfl, hb4⟩
        rw [H3.out.2.1]
        have H4 := Lib.hid (H3.out.2.2.trans' (Keeps.of_below hb4))
        clear hb4
        go_wp2_with fail
        go_ret
        exact ⟨rfl, H4.out.to_below⟩
      · exact absurd H1.out.2.2 (hne g n)
    · rw [hL] at ho1 ⊢
      simp only [] at ho1 ⊢
      have H1 := Lib.hid hk1
      have HV := Lib.hid hvv
      clear ho1 hk1 hvv hL
      go_wp2_with fail
      refine (cvalid_any _ _ _ g _ _ (HF.out.2.2.1.keeps H1.out) (by omega)).mono ?_
      rintro e w2 ⟨rfl, hb2⟩
      rw [HV.out]
      have H2 := Lib.hid (H1.out.trans' (Keeps.of_below (S := fun _ => False) hb2))
      clear hb2
      go_wp2_with fail
      refine (cencode_any _ 2 2 two _ _ (slp_two _ _ ⟨1, -7, 0⟩ ⟨2, 9, 4⟩) (by omega)).mono ?_
      rcases L_cases two 2 with ⟨-, hL, hE⟩ | ⟨hvv, -⟩
      · rw [hL]
        rintro e w3 ⟨A3, c3, rfl, ho3, hk3⟩
        obtain ⟨b, hb⟩ : ∃ b, b = F.sealL 3 (colUp two 2 3) := ⟨_, rfl⟩
        rw [← hb] at ho3 hE ⊢
        simp only [] at ho3 ⊢
        have H3 := Lib.hid (And.intro ho3 (And.intro ((H2.out.alloc _).trans' hk3) hE))
        have hbl := enc_len hE
        clear ho3 hk3 hE hL hb
        go_wp2_with fail
        refine (cdecode_any _ _ _ _ _ b rfl (V.ow_sl H3.out.1) (getD_of (enc_bytes H3.out.2.2)) (by omega) (own_len H3.out.1) (HF.out.2.2.2.below H3.out.2.1.to_below)).mono ?_
        rintro e w4 ⟨hk4, ⟨A4, m, c4, f, rfl, hmc, hsl, henc, hi⟩ | ⟨rfl, hne⟩⟩
        · obtain ⟨rfl, hfe⟩ := enc_inj H3.out.2.2 henc (fun j _ => by unfold two; split <;> (unfold I64; simp)) (fun j _ => hi j)
          obtain ⟨b4, o4, rfl, -, hc⟩ := hsl (by omega)
          have x1 := (hc 0 (by omega)).2.1
          have x2 := (hc 1 (by omega)).2.2
          rw [← hfe 0 (by omega)] at x1
          rw [← hfe 1 (by omega)] at x2
          have x1 : w4.cell? ⟨b4, o4 + 1, none⟩ = some (.int .i64 (-7)) := x1
          have x2 : w4.cell? ⟨b4, o4 + 1 * 3 + 2, none⟩ = some (.int .i64 4) := x2
          have H4 := Lib.hid (H3.out.2.1.trans' hk4)
          clear hsl hk4 henc hi hfe hc hbl
          go_wp2_with fail
          go_ret
          exact ⟨rfl, H4.out.to_below⟩
        · exact absurd H3.out.2.2 (hne two 2)
      · rw [two_v] at hvv
        cases hvv
end Go.Proofs.YtboecnakndpgfaaDoor
namespace Go.Proofs.YtboecnakndpgfaaDoor.columnBack
open Go.ChangeShapes Go.WideShapes Go.ChangeAt Go.RowKit
open Go.ChangeMaps (open_string shut_string)
set_option linter.unusedVariables false

theorem own : ownKnob Tryd.prog.godebug = none := by kernel_rfl
theorem laidOut : laidOutB Tryd.prog = true := by kernel_rfl

theorem errAt : Tryd.prog.globalNamed "errors.errorType" = some 0 := by kernel_rfl
theorem rtAt : (Tryd.prog.cutTypes.find? (·.1 == "internal/reflectlite.rtype")).map (·.2) = some 164 := by kernel_rfl
theorem oneRow : ((List.range Tryd.prog.types.size).filter fun t => Tryd.prog.rowNamed t [101, 114, 114, 111, 114]) = [125] := by kernel_rfl
/-- What the row's list gives: the variable's one cell. -/
theorem herr {W : World} (h : laidMetH Tryd.prog Rows.columnBackRow.laid W) : V.HErr W := by
  have h' : laidMet Tryd.prog [] W ∧ handlesMet Tryd.prog Rows.columnBackRow.laid W := h
  obtain ⟨name, u, ty, e1, e2, e3, e4, e5⟩ := h'.2 _ (List.mem_singleton.2 rfl)
  have en : name = [101, 114, 114, 111, 114] := (Option.some.inj e1).symm
  subst en
  obtain rfl := Option.some.inj (rtAt.symm.trans e2)
  have hm : ty ∈ (List.range Tryd.prog.types.size).filter fun t => Tryd.prog.rowNamed t [101, 114, 114, 111, 114] := List.mem_filter.2 ⟨List.mem_range.2 e3, e4⟩
  rw [oneRow] at hm
  obtain rfl := List.mem_singleton.1 hm
  have hh : typeHandle Tryd.prog 125 = .pointer (some ⟨1, 125, none⟩) := by kernel_rfl
  rw [hh] at e5
  have := World.var?_cell errAt e5 0
  simpa [V.HErr] using this
/-- A world that meets the condition: the settled one, the variable's cell laid. -/
noncomputable def laidWorld (os : Os) : World :=
  let w0 := World.holding Tryd.prog os ⟨#[], #[], []⟩
  { w0 with heap := w0.heap.modify 0 fun
      | .cells _ t frozen => .cells #[.iface 164 (.agg #[.pointer (some ⟨1, 125, none⟩)])] t frozen
      | o => o }
theorem laid_met (os : Os) (args : Array Value) : laidMetH Tryd.prog Rows.columnBackRow.laid ((laidWorld os).forCall (fun _ _ => 0) ⟨#[], args, []⟩).memory :=
  laidMetH_of_parts (laidMet_nil _ _) (by kernel_rfl)
theorem reads (os : Os) {H : Type} (enc : TypeId × Value → H) : ∃ places, DataW.whole enc Tryd.prog ((laidWorld os).forCall (fun _ _ => 0) ⟨#[], #[.slice none 0 0], []⟩).memory Tryd.f4.params.toList Rows.columnBackSpec.vars false #[.slice none 0 0].toList 8 = some ([.nil], [], places) :=
  ⟨[], by kernel_rfl⟩

set_option maxRecDepth 100000 in
theorem lifted (os : Os) (started : os.Started) (H : Type) (enc : TypeId × Value → H) (F : Stop.Interp) :
    ReturnsInHanded {} Tryd.checked os 4 .any ((OpenSpec.ofChange Rows.columnBackSpec).preRow enc Tryd.prog Tryd.f4 Rows.columnBackRow.domain false Rows.columnBackRow.laid) (((OpenSpec.ofChange Rows.columnBackSpec).at F).post enc Tryd.prog Tryd.f4 false true false false) := by
  obtain ⟨places, hx⟩ := reads os enc
  refine returnsInHanded_of_row (C := Tryd.checked) (s := OpenSpec.ofChange Rows.columnBackSpec) own started (by kernel_rfl) Tryd.func4
    (witness_row_at (enc := enc) (C := Tryd.checked) false (laidWorld os) #[.slice none 0 0] rfl (by kernel_rfl) (by kernel_rfl) (by kernel_rfl)
      (OpenSpec.preRow_of_cond 8 hx (by kernel_rfl) (fun k hk => by cases hk) (by kernel_rfl) (laid_met os _))) ?_
  intro W base args ds gs before hval0 hW hcnd _ hsz0 hL _ _
  have hErr := herr hL
  have hval : ∀ (j : Nat) t v, Tryd.f4.params[j]? = some t → args[j]? = some v → Value.okWide Tryd.prog W .any base t v := hval0
  have hW' := hW
  obtain ⟨p, q, hA0, hV, rfl, hfz, hnd⟩ := hW
  have hA : DataW.TrodAll enc Tryd.prog W 0 (fun _ => true) true Tryd.f4.params.toList args.toList ds p := hA0
  rw [Tryd.params4] at hA hval
  obtain ⟨v0, vs0, d0, ds0, p0, q0, hargs, rfl, rfl, h0, r0⟩ := trodAll_cons hA
  obtain ⟨rfl, rfl, rfl⟩ := trodAll_nil r0
  obtain rfl : args = #[v0] := by cases args; simp_all
  obtain ⟨rfl, rfl⟩ := trodVars_none hV
  obtain ⟨a0, len0, cap0, rfl⟩ := okWide_slice Tryd.underlying23 (hval 0 23 v0 rfl rfl)
  have k0 := h0
  have lt0 : ∀ x ∈ p0, x.block < W.heap.size := by obtain ⟨m, hm⟩ := k0; exact DataW.trod_lt m _ _ _ hm
  obtain ⟨f0, w0⟩ : ∃ f, IsPoints W a0 len0 cap0 f := by
    obtain ⟨fuel, hf⟩ := h0
    exact open_points hf
  clear hA0 hval0
  refine (columnBack_walk a0 len0 cap0 f0 W w0 hErr).mono fun e W' ⟨he, bel⟩ => ?_
  subst he
  exact ⟨_, rfl, _, _, _, [], _, [], hW', trodAll_mk1 (shut_bool Tryd.underlying4 _), (trodAll_cons_mk (Below.trod laidOut (by kernel_rfl) (of_decide_eq_true (by kernel_rfl)) k0 bel lt0) trodAll_mk0), rfl, bel.frame _, fun h => by cases h⟩

theorem said : Rows.ColumnBackSaid :=
  OpenClaim.holds_of_cond 4 Tryd.f4 rfl rfl rfl rfl rfl rfl rfl ⟨rfl, rfl, rfl, rfl, rfl⟩ rfl rfl rfl rfl rfl (by kernel_rfl) Tryd.func4 (by kernel_rfl)
    (of_decide_eq_true (by kernel_rfl)) (by unfold Func.isWrapper; first | (rw [if_pos (by decide +kernel)]; kernel_rfl) | (rw [if_neg (by decide +kernel)]; exact ⟨rfl, rfl⟩))
    (fun os started H enc _ F => by rw [OpenClaim.pre_eq_preRow]; exact lifted os started H enc F)

/-- No parameter wants a stand-in; the program's own looks are off: what the card asks. -/
theorem plainArgs (f : FuncId) (fn : Func) (hf : Tryd.pinned.checked.prog.funcNamed "tidemill/tidemilllaw13.ColumnBack" = some f) (hfn : Tryd.pinned.checked.prog.funcs[f]? = some fn) :
    true = Tryd.pinned.checked.prog.looks [] ∧ ∀ (j : Nat) t, fn.params[j]? = some t → Tryd.pinned.checked.prog.wantsStandIn t = false := by
  obtain rfl : f = 4 := Option.some.inj ((show Tryd.prog.funcNamed "tidemill/tidemilllaw13.ColumnBack" = some 4 by kernel_rfl).symm.trans hf) |>.symm
  obtain rfl : fn = Tryd.f4 := (Option.some.inj (Tryd.func4.symm.trans hfn)).symm
  refine ⟨by kernel_rfl, fun j t ht => ?_⟩
  rw [Tryd.params4] at ht
  have hall : ([23] : List TypeId).all (fun t => Tryd.prog.wantsStandIn t == false) = true := by kernel_rfl
  have hm : t ∈ ([23] : List TypeId) := by simpa using Array.mem_of_getElem? ht
  have hr : Tryd.prog.wantsStandIn t = false := by simpa using List.all_eq_true.1 hall t hm
  exact hr

theorem proved : Rows.ColumnBackCardSaid :=
  Claim7.holds_tied_plain_at .later [] _ _ _ _ said (fun _ h => by cases h) (by kernel_rfl) (fun _ h => by cases h) columnBack_row_tie rfl ⟨rfl, rfl⟩ (by kernel_rfl) rfl plainArgs (by kernel_rfl)
#print axioms proved
end Go.Proofs.YtboecnakndpgfaaDoor.columnBack
