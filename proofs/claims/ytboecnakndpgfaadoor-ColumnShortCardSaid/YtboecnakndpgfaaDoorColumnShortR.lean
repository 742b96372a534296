/-
  Proved: a block that is cut short anywhere, or has bytes behind it, is corrupt.
  No condition beyond those of the given row. (The frame follows the kit's proof-skeleton; the walk is the text ColumnShortW of this claim.)
-/
import Derived.Test.YtboecnakndpgfaaDoorJ12
import Derived.Test.YtboecnakndpgfaaDoorCards
import Derived.Test.YtboecnakndpgfaaDoorTie
import Derived.WalkKit
import Derived.ProofKit
import Derived.OpenShut
import Derived.ShutString
import Derived.ChangeOld
import Derived.Below
import Derived.SizedLaws
import Derived.ChangeVars
import Derived.Lib.SmallJoins
import Derived.LaidLaws
import Derived.LaidHandle
import Derived.Stop.Joined
import Derived.Deep.DeepHandedRow
namespace Go.Proofs.YtboecnakndpgfaaDoor
open Go.RowKit
set_option linter.unusedVariables false
set_option linter.unusedSimpArgs false
theorem row_le {w : World} {base n c : Nat} {A : Option Addr} {xs : List Value} (h : w.ownsRow base 5 1 (.slice A n c) n xs) : n ≤ c := by
  obtain ⟨A', c', hv, hc, -⟩ := own_form h
  injection hv with _ _ h3
  omega
/-- A frame that is cut anywhere does not open. -/
theorem cut_open {kind : Nat} {bs : List Nat} (h : bs.length ≤ 1048576) {m : Nat} (hm : m < (F.sealL kind bs).length) : F.openE ((F.sealL kind bs).take m) ≠ 0 := by
  intro ho
  have hl : ((F.sealL kind bs).take m).length = m := by rw [List.length_take]; omega
  unfold F.openE at ho
  by_cases h0 : F.lenE ((F.sealL kind bs).take m) = 0
  · rw [if_pos h0] at ho
    obtain ⟨l1, -, l3⟩ := F.lenE_zero h0
    by_cases h1 : F.lenV ((F.sealL kind bs).take m) = ((F.sealL kind bs).take m).length
    · have hn : F.frameN ((F.sealL kind bs).take m) = F.frameN (F.sealL kind bs ++ []) := by
        unfold F.frameN
        rw [List.append_nil, List.take_take, show min 5 m = 5 by omega]
      rw [F.frameN_seal kind bs [] (by omega)] at hn
      rw [F.sealL_length] at hm
      omega
    · rw [if_neg h1] at ho
      cases ho
  · rw [if_neg h0] at ho
    exact h0 ho
theorem not_open {b : List Nat} (h : F.openE b ≠ 0) : NotEnc b := fun f n hE => h (enc_open hE)
theorem not_cut {f : Nat → Pt} {n : Nat} {b : List Nat} (h : IsEnc b f n) {m : Nat} (hm : m < b.length) : NotEnc (b.take m) := by
  refine not_open ?_
  have hl := colUp_len f n (enc_n h).2 3
  rw [← h.2] at hm ⊢
  exact cut_open (by omega) hm
theorem not_more {f : Nat → Pt} {n : Nat} {b : List Nat} (h : IsEnc b f n) : NotEnc (b ++ [0]) := by
  refine not_open ?_
  have hl := colUp_len f n (enc_n h).2 3
  rw [← h.2, F.open_more 3 (colUp f n 3) (by omega)]
  decide
theorem one_v : colV (fun _ => (⟨1, 0, 0⟩ : Pt)) 1 = true := by decide
/-- A place below L, as the laws make it. -/
theorem mod_in (a : Int) (L : Nat) (hL : 0 < L) : ∃ (r : Int) (p : Nat), a.tmod (L : Int) = r ∧ -(L : Int) < r ∧ r < (L : Int) ∧ (r + (L : Int)).tmod (L : Int) = (p : Int) ∧ p < L := by
  have h1 := Int.tmod_lt_of_pos a (show 0 < (L : Int) by omega)
  have h2 := Int.lt_tmod_of_pos a (show 0 < (L : Int) by omega)
  have h3 : 0 ≤ Int.tmod (a.tmod L + (L : Int)) L := Int.tmod_nonneg _ (by omega)
  have h4 := Int.tmod_lt_of_pos (a.tmod L + (L : Int)) (show 0 < (L : Int) by omega)
  exact ⟨_, (Int.tmod (a.tmod L + (L : Int)) L).toNat, rfl, by omega, h1, by omega, by omega⟩
end Go.Proofs.YtboecnakndpgfaaDoor
namespace Go.Proofs.YtboecnakndpgfaaDoor
open Go.RowKit
set_option linter.unusedVariables false
set_option linter.unusedSimpArgs false
set_option maxRecDepth 100000 in
set_option maxHeartbeats 4000000 in
theorem columnShort_walk (a0 : Option Addr) (len0 cap0 : Nat) (f0 : Nat → Pt) (a1 : Int) (w : World) (w0 : IsPoints w a0 len0 cap0 f0) (w1 : (Lit.int .i64 a1).wf = true) (hv : V.HErr w) :
    Calls Tryd.prog 7 #[.slice a0 len0 cap0, .int .i64 a1] w fun e w' => e = .returned (.bool true) ∧ Below w.heap.size w w' := by
  obtain ⟨n, hn⟩ : ∃ n, n = min len0 100 := ⟨_, rfl⟩
  obtain ⟨g, hg, hsl⟩ := w0.cut n (by omega)
  have l1 := w0.le
  have l2 := w0.cap_le
  have hat := wf_i64 w1
  unfold maxLen at l2
  clear w0 w1
  have HF := Lib.hid (And.intro hn (And.intro hg (And.intro hsl hv)))
  have hn3 : n ≤ 100 := by omega
  have hn4 : n ≤ cap0 := by omega
  clear hn hg hsl hv
  go_enter Tryd.func7, Tryd.ntmps7
  go_upto_if 14 with (fail)
  go_cut [0] (fun s0 wx => s0 = .slice a0 n cap0 ∧ w = wx)
  case first =>
    by_cases h : 100 < len0
    · obtain ⟨b, off, ha, -, -⟩ := HF.out.2.2.1 (by have := HF.out.1; omega)
      subst ha
      go_wp2_with fail
      go_meet
      have : n = 100 := by have := HF.out.1; omega
      subst this
      exact ⟨rfl, rfl⟩
    · go_wp2_with fail
      go_meet
      have : n = len0 := by have := HF.out.1; omega
      subst this
      exact ⟨rfl, rfl⟩
  case rest =>
    obtain ⟨rfl, rfl⟩ := hcut
    clear l1
    go_wp2_with fail
    refine (cencode_any _ _ _ g _ _ HF.out.2.2.1 (by omega)).mono ?_
    rintro e w1 ⟨A1, c1, rfl, ho1, hk1⟩
    go_upto_if 23 with (fail)
    go_cut [5, 6] (fun s5 s6 wx => ∃ (A : Option Addr) (c : Nat) (b : List Nat) (f : Nat → Pt) (m : Nat), s5 = .slice A b.length c ∧ s6 = .int .i64 0 ∧ IsEnc b f m ∧ wx.ownsRow w.heap.size 5 1 (.slice A b.length c) b.length (b.map byteV) ∧ Keeps (fun _ => False) w wx)
    case first =>
      rcases L_cases g n with ⟨hvv, hL, hE⟩ | ⟨hvv, hL⟩
      · rw [hL] at ho1 ⊢
        obtain ⟨b, hb⟩ : ∃ b, b = F.sealL 3 (colUp g n 3) := ⟨_, rfl⟩
        rw [← hb] at ho1 hE ⊢
        simp only [] at ho1 ⊢
        have H1 := Lib.hid (And.intro ho1 (And.intro hk1 hE))
        clear ho1 hk1 hE hvv hL hb
        go_wp2_with fail
        go_meet
        exact ⟨A1, c1, b, g, n, rfl, rfl, H1.out.2.2, H1.out.1, H1.out.2.1⟩
      · rw [hL] at ho1 ⊢
        simp only [] at ho1 ⊢
        have H1 := Lib.hid hk1
        clear ho1 hk1 hvv hL
        go_wp2_with fail
        refine (cencode_any _ 1 1 (fun _ => ⟨1, 0, 0⟩) _ _ (slp_one _ _ ⟨1, 0, 0⟩) (by omega)).mono ?_
        rcases L_cases (fun _ => ⟨1, 0, 0⟩) 1 with ⟨-, hL, hE⟩ | ⟨hvv, -⟩
        · rw [hL]
          rintro e w3 ⟨A3, c3, rfl, ho3, hk3⟩
          obtain ⟨b, hb⟩ : ∃ b, b = F.sealL 3 (colUp (fun _ => (⟨1, 0, 0⟩ : Pt)) 1 3) := ⟨_, rfl⟩
          rw [← hb] at ho3 hE ⊢
          simp only [] at ho3 ⊢
          have hka := H1.out.alloc (.cells #[.int .i64 1, .int .i64 0, .int .i64 0] 34)
          have H3 := Lib.hid (And.intro (own_base ho3 hka.size) (And.intro (hka.trans' hk3) hE))
          clear ho3 hk3 hE hL hb hka
          go_wp2_with fail
          go_meet
          exact ⟨A3, c3, b, _, 1, rfl, rfl, H3.out.2.2, H3.out.1, H3.out.2.1⟩
        · rw [one_v] at hvv
          cases hvv
    case rest =>
      obtain ⟨A, c, b, f, m, rfl, rfl, hE, ho, hk⟩ := hcut
      have hbl := enc_len hE
      obtain ⟨r, p, hr, hr1, hr2, hp, hpL⟩ := mod_in a1 b.length (by omega)
      have hlc := row_le ho
      have hbs := enc_bytes hE
      obtain ⟨A', c', hv3, -, hA3⟩ := own_form ho
      injection hv3 with q1 q2 q3
      rw [← q1] at hA3
      obtain ⟨gA, hgA, -, -⟩ := hA3 (by omega)
      subst hgA
      clear q1 q2 q3 hA3 hat
      obtain ⟨L, hL⟩ : ∃ L, L = b.length := ⟨_, rfl⟩
      rw [← hL] at hbl hr hr1 hr2 hp hpL hlc ho ⊢
      have HC := Lib.hid (And.intro hE (And.intro ho (And.intro hk (And.intro hbs hL.symm))))
      clear hE ho hk hbs hL
      have e4 : ((L : Int) == 0) = false := by simp; omega
      have e5 : ¬ (L : Int) = 0 := by omega
      go_wp2_with fail
      have hsb := V.ow_sl HC.out.2.1
      have hst := V.sl_take_list (by first | exact hsb | (rw [← HC.out.2.2.2.2]; exact hsb)) (show p ≤ L by omega)
      have hlt : (b.take p).length = p := by rw [List.length_take, HC.out.2.2.2.2]; omega
      have HT := Lib.hid (And.intro hst hlt)
      clear hsb hst hlt
      refine (cdecode_any wc _ p c _ (b.take p) HT.out.2 HT.out.1 (V.getD_take_lt (getD_of HC.out.2.2.2.1) p) (by omega) (by omega) (HF.out.2.2.2.below HC.out.2.2.1.to_below)).mono ?_
      rintro e w4 ⟨hk4, ⟨A4, m4, c4, f4, rfl, hmc4, hsl4, henc4, hi4⟩ | ⟨rfl, hne⟩⟩
      · exact absurd henc4 (not_cut HC.out.1 (by rw [HC.out.2.2.2.2]; omega) f4 m4)
      · clear hne e4 e5 hr hp
        have H4 := Lib.hid (And.intro (own_keeps HC.out.2.1 hk4 (fun _ _ h => h)) (HC.out.2.2.1.trans' hk4))
        clear hk4
        go_wp2_with (at_builtin; refine wpList_append_sl (f := byteC b) (D := fun k => k < w4.heap.size) (base := w4.heap.size) (n := 0) (xs := []) byteElem rfl (.tmp 55) (.tmp 56) rfl rfl rfl ?hown ?hsl ?h1 ?h63 ?hby ?hbase ?_)
        case hown => exact F.own_lit0 w4 w4.heap.size 5 (Nat.le_refl _)
        case hsl => exact ((V.ow_sl H4.out.1).keep (w' := w4.alloc (.cells #[] 5)) (fun q _ hq => Below.heap_alloc w4 _ q hq))
        case h1 => intro j _; rfl
        case h63 => unfold maxLen; omega
        case hby => omega
        case hbase => simp
        intro v5 w5 ho5 hg5 hx5
        clear hx5
        have k45 : Keeps (fun _ => False) w4 w5 := F.keeps_grown ((Keeps.refl _ w4).alloc _) (F.own_lit0 w4 w4.heap.size 5 (Nat.le_refl _)) hg5
        have ho5' : w5.ownsRow w4.heap.size 5 1 v5 L (b.map byteV) := by
          have := ho5
          try simp only [List.nil_append, Nat.zero_add] at this
          rw [F.range_bytes HC.out.2.2.2.2] at this
          exact this
        have H5 := Lib.hid (And.intro ho5' k45)
        clear ho5 hg5 k45 ho5'
        go_wp2_with (at_builtin; refine wpList_append_sl (f := fun _ => .int .u8 0) (D := fun k => k = w5.heap.size) (base := w4.heap.size) (n := L) (xs := b.map byteV) byteElem rfl (.tmp 57) (.tmp 58) rfl rfl rfl ?hown ?hsl ?h1 ?h63 ?hby ?hbase ?_)
        case hown => exact H5.out.1.alloc _
        case hsl => exact sl_one _ _ _
        case h1 => intro j _; rfl
        case h63 => unfold maxLen; omega
        case hby => omega
        case hbase => have := H5.out.2.size; simp; omega
        intro v6 w6 ho6 hg6 hx6
        clear hx6
        have k46 : Keeps (fun _ => False) w4 w6 := F.keeps_grown (H5.out.2.alloc _) (H5.out.1.alloc _) hg6
        have ho6' : w6.ownsRow w4.heap.size 5 1 v6 (L + 1) ((b ++ [0]).map byteV) := by rw [List.map_append]; exact ho6
        have hl6 : (b ++ [0]).length = L + 1 := by rw [List.length_append, HC.out.2.2.2.2]; rfl
        have hb6 : ∀ j, (b ++ [0]).getD j 0 < 256 := V.getD_app_lt (getD_of HC.out.2.2.2.1) (getD_of (by simp))
        obtain ⟨A6, c6, hv6, hc6, -⟩ := own_form ho6'
        subst hv6
        have H6 := Lib.hid (And.intro ho6' (And.intro k46 (And.intro hl6 hb6)))
        clear ho6 ho6' hg6 k46 hl6 hb6
        go_wp2_with fail
        have hs6 := V.ow_sl H6.out.1
        refine (cdecode_any w6 A6 (L + 1) c6 _ (b ++ [0]) H6.out.2.2.1 hs6 H6.out.2.2.2 (by omega) hc6 (HF.out.2.2.2.below (H4.out.2.trans' H6.out.2.1).to_below)).mono ?_
        rintro e w7 ⟨hk7, ⟨A7, m7, c7, f7, rfl, hmc7, hsl7, henc7, hi7⟩ | ⟨rfl, hne⟩⟩
        · exact absurd henc7 (not_more HC.out.1 f7 m7)
        · have k47 := H6.out.2.1.trans' hk7
          have H7 := Lib.hid (And.intro (own_keeps H4.out.1 k47 (fun _ _ h => h)) (H4.out.2.trans' k47))
          clear hne hk7 hs6 k47
          go_wp2_with fail
          have hs7 := V.ow_sl H7.out.1
          refine (cdecode_any w7 _ L c _ b HC.out.2.2.2.2 hs7 (getD_of HC.out.2.2.2.1) (by omega) hlc (HF.out.2.2.2.below H7.out.2.to_below)).mono ?_
          rintro e w8 ⟨hk8, ⟨A8, m8, c8, f8, rfl, hmc8, hsl8, henc8, hi8⟩ | ⟨rfl, hne⟩⟩
          · have H8 := Lib.hid (H7.out.2.trans' hk8)
            clear hk8 hsl8 henc8 hi8 hs7
            go_wp2_with fail
            go_ret
            exact ⟨rfl, H8.out.to_below⟩
          · exact absurd HC.out.1 (hne f m)
end Go.Proofs.YtboecnakndpgfaaDoor
namespace Go.Proofs.YtboecnakndpgfaaDoor.columnShort
open Go.ChangeShapes Go.WideShapes Go.ChangeAt Go.RowKit
open Go.ChangeMaps (open_string shut_string)
set_option linter.unusedVariables false

theorem own : ownKnob Tryd.prog.godebug = none := by kernel_rfl
theorem laidOut : laidOutB Tryd.prog = true := by kernel_rfl

theorem errAt : Tryd.prog.globalNamed "errors.errorType" = some 0 := by kernel_rfl
theorem rtAt : (Tryd.prog.cutTypes.find? (·.1 == "internal/reflectlite.rtype")).map (·.2) = some 164 := by kernel_rfl
theorem oneRow : ((List.range Tryd.prog.types.size).filter fun t => Tryd.prog.rowNamed t [101, 114, 114, 111, 114]) = [125] := by kernel_rfl
/-- What the row's list gives: the variable's one cell. -/
theorem herr {W : World} (h : laidMetH Tryd.prog Rows.columnShortRow.laid W) : V.HErr W := by
  have h' : laidMet Tryd.prog [] W ∧ handlesMet Tryd.prog Rows.columnShortRow.laid W := h
  obtain ⟨name, u, ty, e1, e2, e3, e4, e5⟩ := h'.2 _ (List.mem_singleton.2 rfl)
  have en : name = [101, 114, 114, 111, 114] := (Option.some.inj e1).symm
  subst en
  obtain rfl := Option.some.inj (rtAt.symm.trans e2)
  have hm : ty ∈ (List.range Tryd.prog.types.size).filter fun t => Tryd.prog.rowNamed t [101, 114, 114, 111, 114] := List.mem_filter.2 ⟨List.mem_range.2 e3, e4⟩
  rw [oneRow] at hm
  obtain rfl := List.mem_singleton.1 hm
  have hh : typeHandle Tryd.prog 125 = .pointer (some ⟨1, 125, none⟩) := by kernel_rfl
  rw [hh] at e5
  have := World.var?_cell errAt e5 0
  simpa [V.HErr] using this
/-- A world that meets the condition: the settled one, the variable's cell laid. -/
noncomputable def laidWorld (os : Os) : World :=
  let w0 := World.holding Tryd.prog os ⟨#[], #[], []⟩
  { w0 with heap := w0.heap.modify 0 fun
      | .cells _ t frozen => .cells #[.iface 164 (.agg #[.pointer (some ⟨1, 125, none⟩)])] t frozen
      | o => o }
theorem laid_met (os : Os) (args : Array Value) : laidMetH Tryd.prog Rows.columnShortRow.laid ((laidWorld os).forCall (fun _ _ => 0) ⟨#[], args, []⟩).memory :=
  laidMetH_of_parts (laidMet_nil _ _) (by kernel_rfl)
theorem reads (os : Os) {H : Type} (enc : TypeId × Value → H) : ∃ places, DataW.whole enc Tryd.prog ((laidWorld os).forCall (fun _ _ => 0) ⟨#[], #[.slice none 0 0, .int .i64 0], []⟩).memory Tryd.f7.params.toList Rows.columnShortSpec.vars false #[.slice none 0 0, .int .i64 0].toList 8 = some ([.nil, .lit (.int .i64 0)], [], places) :=
  ⟨[], by kernel_rfl⟩

set_option maxRecDepth 100000 in
theorem lifted (os : Os) (started : os.Started) (H : Type) (enc : TypeId × Value → H) (F : Stop.Interp) :
    ReturnsInHanded {} Tryd.checked os 7 .any ((OpenSpec.ofChange Rows.columnShortSpec).preRow enc Tryd.prog Tryd.f7 Rows.columnShortRow.domain false Rows.columnShortRow.laid) (((OpenSpec.ofChange Rows.columnShortSpec).at F).post enc Tryd.prog Tryd.f7 false true false false) := by
  obtain ⟨places, hx⟩ := reads os enc
  refine returnsInHanded_of_row (C := Tryd.checked) (s := OpenSpec.ofChange Rows.columnShortSpec) own started (by kernel_rfl) Tryd.func7
    (witness_row_at (enc := enc) (C := Tryd.checked) false (laidWorld os) #[.slice none 0 0, .int .i64 0] rfl (by kernel_rfl) (by kernel_rfl) (by kernel_rfl)
      (OpenSpec.preRow_of_cond 8 hx (by kernel_rfl) (fun k hk => by cases hk) (by kernel_rfl) (laid_met os _))) ?_
  intro W base args ds gs before hval0 hW hcnd _ hsz0 hL _ _
  have hErr := herr hL
  have hval : ∀ (j : Nat) t v, Tryd.f7.params[j]? = some t → args[j]? = some v → Value.okWide Tryd.prog W .any base t v := hval0
  have hW' := hW
  obtain ⟨p, q, hA0, hV, rfl, hfz, hnd⟩ := hW
  have hA : DataW.TrodAll enc Tryd.prog W 0 (fun _ => true) true Tryd.f7.params.toList args.toList ds p := hA0
  rw [Tryd.params7] at hA hval
  obtain ⟨v0, vs0, d0, ds0, p0, q0, hargs, rfl, rfl, h0, r0⟩ := trodAll_cons hA
  obtain ⟨v1, vs1, d1, ds1, p1, q1, rfl, rfl, rfl, h1, r1⟩ := trodAll_cons r0
  obtain ⟨rfl, rfl, rfl⟩ := trodAll_nil r1
  obtain rfl : args = #[v0, v1] := by cases args; simp_all
  obtain ⟨rfl, rfl⟩ := trodVars_none hV
  obtain ⟨a0, len0, cap0, rfl⟩ := okWide_slice Tryd.underlying23 (hval 0 23 v0 rfl rfl)
  have k0 := h0
  have lt0 : ∀ x ∈ p0, x.block < W.heap.size := by obtain ⟨m, hm⟩ := k0; exact DataW.trod_lt m _ _ _ hm
  obtain ⟨f0, w0⟩ : ∃ f, IsPoints W a0 len0 cap0 f := by
    obtain ⟨fuel, hf⟩ := h0
    exact open_points hf
  obtain ⟨a1, rfl, rfl, rfl, w1⟩ := open_int Tryd.underlying3 (hval 1 3 v1 rfl rfl) h1
  clear hA0 hval0
  refine (columnShort_walk a0 len0 cap0 f0 a1 W w0 w1 hErr).mono fun e W' ⟨he, bel⟩ => ?_
  subst he
  exact ⟨_, rfl, _, _, _, [], _, [], hW', trodAll_mk1 (shut_bool Tryd.underlying4 _), (trodAll_cons_mk (Below.trod laidOut (by kernel_rfl) (of_decide_eq_true (by kernel_rfl)) k0 bel lt0) (trodAll_cons_mk (shut_int Tryd.underlying3 w1) trodAll_mk0)), rfl, bel.frame _, fun h => by cases h⟩

theorem said : Rows.ColumnShortSaid :=
  OpenClaim.holds_of_cond 7 Tryd.f7 rfl rfl rfl rfl rfl rfl rfl ⟨rfl, rfl, rfl, rfl, rfl⟩ rfl rfl rfl rfl rfl (by kernel_rfl) Tryd.func7 (by kernel_rfl)
    (of_decide_eq_true (by kernel_rfl)) (by unfold Func.isWrapper; first | (rw [if_pos (by decide +kernel)]; kernel_rfl) | (rw [if_neg (by decide +kernel)]; exact ⟨rfl, rfl⟩))
    (fun os started H enc _ F => by rw [OpenClaim.pre_eq_preRow]; exact lifted os started H enc F)

/-- No parameter wants a stand-in; the program's own looks are off: what the card asks. -/
theorem plainArgs (f : FuncId) (fn : Func) (hf : Tryd.pinned.checked.prog.funcNamed "tidemill/tidemilllaw13.ColumnShort" = some f) (hfn : Tryd.pinned.checked.prog.funcs[f]? = some fn) :
    true = Tryd.pinned.checked.prog.looks [] ∧ ∀ (j : Nat) t, fn.params[j]? = some t → Tryd.pinned.checked.prog.wantsStandIn t = false := by
  obtain rfl : f = 7 := Option.some.inj ((show Tryd.prog.funcNamed "tidemill/tidemilllaw13.ColumnShort" = some 7 by kernel_rfl).symm.trans hf) |>.symm
  obtain rfl : fn = Tryd.f7 := (Option.some.inj (Tryd.func7.symm.trans hfn)).symm
  refine ⟨by kernel_rfl, fun j t ht => ?_⟩
  rw [Tryd.params7] at ht
  have hall : ([23, 3] : List TypeId).all (fun t => Tryd.prog.wantsStandIn t == false) = true := by kernel_rfl
  have hm : t ∈ ([23, 3] : List TypeId) := by simpa using Array.mem_of_getElem? ht
  have hr : Tryd.prog.wantsStandIn t = false := by simpa using List.all_eq_true.1 hall t hm
  exact hr

theorem proved : Rows.ColumnShortCardSaid :=
  Claim7.holds_tied_plain_at .later [] _ _ _ _ said (fun _ h => by cases h) (by kernel_rfl) (fun _ h => by cases h) columnShort_row_tie rfl ⟨rfl, rfl⟩ (by kernel_rfl) rfl plainArgs (by kernel_rfl)
#print axioms proved
end Go.Proofs.YtboecnakndpgfaaDoor.columnShort
