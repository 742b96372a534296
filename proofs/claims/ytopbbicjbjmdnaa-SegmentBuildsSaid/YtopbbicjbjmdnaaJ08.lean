/-
  Texts of this proof, joined: ColE, SgF, SgW.
-/
import Derived.Test.YtopbbicjbjmdnaaJ05
import Derived.Test.YtopbbicjbjmdnaaJ07
import Derived.WalkKit
import Derived.WalkSpells
import Derived.WalkLawsBesides
import Derived.Outline
import Derived.Deep.Cut
import Derived.Test.YtopbbicjbjmdnaaJ01
namespace Go.Proofs.Ytopbbicjbjmdnaa
open Go.RowKit
set_option linter.unusedVariables false
set_option linter.unusedSimpArgs false
theorem wpList_app3 {ops : Array Oper} {rest : List Oper} {o : Oper} {a : Act} {Q : Exit → Act → World → Prop} {w0 w : World} {x : Nat} {v : Fin 3 → Value} {l : Fin 3 → List Value} {u : Value} (h : R3 cE w0 w x v l) (c : Fin 3) (hgd : o.guard = none) (s xo : Operand)
    (ho : o.op = .call { callee := .builtin .append, args := #[s, xo], argTypes := #[cT c, cT c] }) (hs : a.eval s = v c) (hx : a.eval xo = .slice (some ⟨w.heap.size, 0, none⟩) 1 1) (hu : u.oneCell' = true) (hl : (l c).length + 1 ≤ 4097)
    (k : ∀ v' w', R3 cE w0 w' x (upd v c v') (upd l c (l c ++ [u])) → wpList Try.prog ops Q rest (a.put o.dst v') w') : wpList Try.prog ops Q (o :: rest) a (w.alloc (.cells #[u] (cE c))) := by
  refine wpList_append_sl (A := some ⟨w.heap.size, 0, none⟩) (c := 1) (m := 1) (f := fun _ => u) (D := fun k => k = w.heap.size) (base := x) (n := (l c).length) (xs := l c) (cElem c) hgd s xo ho hs hx ((h.own c).alloc _) (sl_one _ _ _) (fun _ _ => hu) (by unfold maxLen; omega) (by omega) (by have := h.size; simp; omega) ?_
  intro v' w' h2 h3 h4
  exact k v' w' ((h.alloc _).grow c h2 h3 h4)
theorem col3 {w0 w : World} {x k : Nat} {V : Fin 3 → Value} {f : Nat → Pt} {p : Pt} (hp : f k = p) (h : R3 cE w0 w x V (upd (upd (upd (colRow f k) 0 (colRow f k 0 ++ [.int .i64 p.t])) 1 (colRow f k 1 ++ [.int .u64 (IntKind.u64.wrap p.v)])) 2 (colRow f k 2 ++ [.int .i64 p.s]))) :
    R3 cE w0 w x V (colRow f (k + 1)) := by
  have e : upd (upd (upd (colRow f k) 0 (colRow f k 0 ++ [.int .i64 p.t])) 1 (colRow f k 1 ++ [.int .u64 (IntKind.u64.wrap p.v)])) 2 (colRow f k 2 ++ [.int .i64 p.s]) = colRow f (k + 1) := by
    subst hp
    funext c
    rw [colRow_succ]
    match c with
    | 0 => rfl
    | 1 => rfl
    | 2 => rfl
  rw [e] at h
  exact h
set_option maxRecDepth 100000 in
set_option maxHeartbeats 8000000 in
theorem rcencode_any (A : Option Addr) (n c : Nat) (f : Nat → Pt) (D0 : Nat → Prop) (w : World) (hsl : SlP w D0 A n f) (hn : n ≤ 9223372036854775807) :
    Calls Try.prog 20 #[.slice A n c] w (F.BytesPost w (colL f n).1 (colL f n).2) := by
  have HO := Lib.hid hsl
  clear hsl
  go_enter Try.func20, Try.ntmps20
  go_wp2_with fail
  refine (rcvalid_any _ _ _ f D0 _ HO.out hn).mono ?_
  rintro e w1 ⟨rfl, hb1⟩
  cases hv : colV f n with
  | false =>
    have HF := Lib.hid (And.intro hv (Keeps.of_below (S := fun _ => False) hb1))
    clear hv hb1
    go_wp2_with fail
    go_ret2
    exact col_bad HF.out.1 HF.out.2
  | true =>
    obtain ⟨-, hn0, hn4⟩ := colV_spec hv
    have HV := Lib.hid hv
    have HS := Lib.hid (R3.start cE (Keeps.of_below (S := fun _ => False) hb1))
    clear hv hb1
    go_wp2_with fail
    go_loopw [4, 5, 6, 7] (fun v4 v5 v6 i wr => ∃ (k : Nat) (v : Fin 3 → Value), k ≤ n ∧ i = .int .i64 k ∧ v4 = v 0 ∧ v5 = v 2 ∧ v6 = v 1 ∧ R3 cE w wr w1.heap.size v (colRow f k)) (fun _ _ _ i _ => n - (intOf i).toNat)
    case atStart => exact ⟨0, _, Nat.zero_le _, rfl, rfl, rfl, rfl, HS.out⟩
    case round =>
      obtain ⟨k, v, hk, rfl, rfl, rfl, rfl, hR⟩ := hrel
      by_cases hlt : k < n
      · obtain ⟨b, off, hA, -, hc⟩ := HO.out (by omega)
        subst hA
        have hc' := hc k hlt
        clear hc
        generalize hp : f k = p at hc'
        have HC := Lib.hid hc'
        clear hc'
        have hP := hp
        have HP := Lib.hid hP
        clear hp hP
        have HX := Lib.hid HO.out
        have HB := Lib.hid (show b < w.heap.size from World.block_lt_of_cell? w _ HC.out.1)
        have HCk := Lib.hid (show ∀ w2, Keeps (fun _ => False) w w2 → w2.cell? ⟨b, off + k * 3, none⟩ = some (.int .i64 p.t) ∧ w2.cell? ⟨b, off + k * 3 + 1, none⟩ = some (.int .i64 p.v) ∧ w2.cell? ⟨b, off + k * 3 + 2, none⟩ = some (.int .i64 p.s) from fun w2 hk2 =>
          ⟨(World.cell?_of_block (w := w) (a := ⟨b, off + k * 3, none⟩) (hk2.block b HB.out (fun h => h))).trans HC.out.1, (World.cell?_of_block (w := w) (a := ⟨b, off + k * 3 + 1, none⟩) (hk2.block b HB.out (fun h => h))).trans HC.out.2.1,
            (World.cell?_of_block (w := w) (a := ⟨b, off + k * 3 + 2, none⟩) (hk2.block b HB.out (fun h => h))).trans HC.out.2.2⟩)
        obtain ⟨k0, k1, k2⟩ := HCk.out _ hR.keep
        have HR := Lib.hid hR
        clear hR
        go_wp2_with (at_builtin; refine wpList_app3 (u := .int .i64 p.t) HR.out 0 rfl (.tmp 26) (.tmp 32) rfl rfl rfl rfl (by rw [colRow_len]; omega) ?_)
        intro a' w2 h2
        obtain ⟨k0, k1, k2⟩ := HCk.out _ h2.keep
        have HR := Lib.hid h2
        clear h2
        go_wp2_with (at_builtin; refine wpList_app3 (u := .int .u64 (IntKind.u64.wrap p.v)) HR.out 1 rfl (.tmp 34) (.tmp 41) rfl rfl rfl rfl (by show (colRow f k 1).length + 1 ≤ _; rw [colRow_len]; omega) ?_)
        intro b' w3 h3
        obtain ⟨k0, k1, k2⟩ := HCk.out _ h3.keep
        have HR := Lib.hid h3
        clear h3
        go_wp2_with (at_builtin; refine wpList_app3 (u := .int .i64 p.s) HR.out 2 rfl (.tmp 43) (.tmp 49) rfl rfl rfl rfl (by show (colRow f k 2).length + 1 ≤ _; rw [colRow_len]; omega) ?_)
        intro c' w4 h4
        have HR := Lib.hid (col3 HP.out h4)
        clear h4
        go_wp2_with fail
        go_roundw
        case rel => exact ⟨k + 1, _, by omega, by go_num, rfl, rfl, rfl, HR.out⟩
        case measure => simp [intOf]; omega
      · obtain rfl : k = n := by omega
        obtain ⟨A0, c0, ev0, hc0, hs0⟩ := r3_sl hR 0
        obtain ⟨A1, c1, ev1, hc1, hs1⟩ := r3_sl hR 1
        obtain ⟨A2, c2, ev2, hc2, hs2⟩ := r3_sl hR 2
        rw [ev0, ev1, ev2]
        have HK := Lib.hid hR.keep
        have H1 := Lib.hid (hs1 _ (fun j hj => col_v hj))
        have H2 := Lib.hid (hs2 _ (fun j hj => col_s hj))
        have H0 := Lib.hid (hs0 _ (fun j hj => col_t hj))
        clear hs0 hs1 hs2 ev0 ev1 ev2 hR HS
        go_wp2_with fail
        refine (D.rencode_any _ _ _ _ _ (tOf f k) H0.out (tOf_range HV.out) hn4).mono ?_
        rintro e w2 ⟨B0, d0, rfl, hr0, hk0⟩
        have P0 := Lib.hid (show PartIs wr w2 B0 d0 (partA f k 0) from ⟨hr0⟩)
        have H1 := Lib.hid (H1.out.keeps hk0 (fun _ _ h => h))
        have H2 := Lib.hid (H2.out.keeps hk0 (fun _ _ h => h))
        have HK := Lib.hid (HK.out.trans' hk0)
        rw [show (pack (D.encTo (tOf f k) k)) = partA f k 0 from rfl]
        clear hr0 hk0 H0
        go_wp2_with fail
        refine (X.rxencode_any _ _ _ _ _ (vOf f k) H1.out (vOf_lt f k) hn4).mono ?_
        rintro e w3 ⟨B1, d1, rfl, hr1, hk1⟩
        have P0 := Lib.hid (P0.out.keeps hk1)
        have P1 := Lib.hid (show PartIs w2 w3 B1 d1 (partA f k 1) from ⟨hr1⟩)
        have H2 := Lib.hid (H2.out.keeps hk1 (fun _ _ h => h))
        have HK := Lib.hid (HK.out.trans' hk1)
        rw [show (pack (X.xencTo (vOf f k) k)) = partA f k 1 from rfl]
        clear hr1 hk1 H1
        go_wp2_with fail
        refine (D.rencode_any _ _ _ _ _ (sOf f k) H2.out (sOf_range HV.out) hn4).mono ?_
        rintro e w4 ⟨B2, d2, rfl, hr2, hk2⟩
        have P0 := Lib.hid (P0.out.keeps hk2)
        have P1 := Lib.hid (P1.out.keeps hk2)
        have P2 := Lib.hid (show PartIs w3 w4 B2 d2 (partA f k 2) from ⟨hr2⟩)
        have HK := Lib.hid (HK.out.trans' hk2)
        rw [show (pack (D.encTo (sOf f k) k)) = partA f k 2 from rfl]
        clear hr2 hk2 H2
        go_wp2_with fail
        refine (V.rvput_any _ none 0 0 [] _ rfl (Sl.nil _ _ _ _) (by omega) ?_ ?_).mono ?_
        · first | omega | (rw [IntKind.wrap_u64]; omega)
        · first | omega | (rw [IntKind.wrap_u64]; omega)
        rintro e w5 ⟨v5, rfl, hi5, hb5⟩
        have hk5 := Keeps.of_below (S := fun _ => False) hb5
        have hi5' : InIs w4 w5 v5 (colUp f k 0) := by
          have e : ([] ++ V.vput ((k : Int)).toNat) = colUp f k 0 := by simp; rfl
          unfold InIs
          first | (rw [← e]; exact hi5) | (rw [IntKind.wrap_u64] at hi5; rw [← e]; have e2 : ((k : Int) % 18446744073709551616).toNat = ((k : Int)).toNat := by omega
                                           rw [e2] at hi5; exact hi5)
        have P0 := Lib.hid (P0.out.keeps hk5)
        have P1 := Lib.hid (P1.out.keeps hk5)
        have P2 := Lib.hid (P2.out.keeps hk5)
        have HK := Lib.hid (HK.out.trans' hk5)
        obtain ⟨A5, c5, rfl, hc5, hs5⟩ := hi5'.form
        have HI := Lib.hid (And.intro hs5 hk5.size)
        clear hi5 hi5' hb5 hk5 hs5
        have l0 : (partA f k 0).length ≤ 40000 := partA_len f k 0 hn4
        have l1 : (partA f k 1).length ≤ 40000 := partA_len f k 1 hn4
        have l2 : (partA f k 2).length ≤ 40000 := partA_len f k 2 hn4
        have HL := Lib.hid (And.intro (And.intro l0 (And.intro l1 l2)) (And.intro (colUp_len f k hn4 0) (And.intro (colUp_len f k hn4 1) (And.intro (colUp_len f k hn4 2) (colUp_len f k hn4 3)))))
        clear l0 l1 l2
        have hcv := conv_sl (P := Try.prog) (c := d0) 24 5 9 Try.underlying24 Try.underlying5 Try.underlying9 (bs := partA f k 0) rfl P0.out.sl
        go_wp2_with fail
        clear hcv
        refine (V.rputText_any _ _ _ _ (colUp f k 0) _ rfl HI.out.1 ?_ ?_).mono ?_
        · have := HL.out.2; omega
        · rw [strB_size]; have := HL.out.1; omega
        rintro e w6 ⟨v6, rfl, hi6, hb6⟩
        have hk6 := Keeps.of_below (S := fun _ => False) hb6
        rw [col_up f k 0] at hi6
        have hi6' : InIs w4 w6 v6 (colUp f k (0 + 1)) := own_base hi6 (by have := HI.out.2; omega)
        obtain ⟨A6, c6, rfl, hc6, hs6⟩ := hi6'.form
        have HI := Lib.hid (And.intro hs6 (Nat.le_trans HI.out.2 hk6.size))
        have P0 := Lib.hid (P0.out.keeps hk6)
        have P1 := Lib.hid (P1.out.keeps hk6)
        have P2 := Lib.hid (P2.out.keeps hk6)
        have HK := Lib.hid (HK.out.trans' hk6)
        clear hi6 hi6' hb6 hk6 hs6
        have hcv := conv_sl (P := Try.prog) (c := d1) 24 5 9 Try.underlying24 Try.underlying5 Try.underlying9 (bs := partA f k 1) rfl P1.out.sl
        go_wp2_with fail
        clear hcv
        refine (V.rputText_any _ _ _ _ (colUp f k 1) _ rfl HI.out.1 ?_ ?_).mono ?_
        · have := HL.out.2; omega
        · rw [strB_size]; have := HL.out.1; omega
        rintro e w7 ⟨v6, rfl, hi6, hb6⟩
        have hk6 := Keeps.of_below (S := fun _ => False) hb6
        rw [col_up f k 1] at hi6
        have hi6' : InIs w4 w7 v6 (colUp f k (1 + 1)) := own_base hi6 (by have := HI.out.2; omega)
        obtain ⟨A6, c6, rfl, hc6, hs6⟩ := hi6'.form
        have HI := Lib.hid (And.intro hs6 (Nat.le_trans HI.out.2 hk6.size))
        have P0 := Lib.hid (P0.out.keeps hk6)
        have P1 := Lib.hid (P1.out.keeps hk6)
        have P2 := Lib.hid (P2.out.keeps hk6)
        have HK := Lib.hid (HK.out.trans' hk6)
        clear hi6 hi6' hb6 hk6 hs6
        have hcv := conv_sl (P := Try.prog) (c := d2) 24 5 9 Try.underlying24 Try.underlying5 Try.underlying9 (bs := partA f k 2) rfl P2.out.sl
        go_wp2_with fail
        clear hcv
        refine (V.rputText_any _ _ _ _ (colUp f k 2) _ rfl HI.out.1 ?_ ?_).mono ?_
        · have := HL.out.2; omega
        · rw [strB_size]; have := HL.out.1; omega
        rintro e w8 ⟨v6, rfl, hi6, hb6⟩
        have hk6 := Keeps.of_below (S := fun _ => False) hb6
        rw [col_up f k 2] at hi6
        have hi6' : InIs w4 w8 v6 (colUp f k (2 + 1)) := own_base hi6 (by have := HI.out.2; omega)
        obtain ⟨A6, c6, rfl, hc6, hs6⟩ := hi6'.form
        have HI := Lib.hid (And.intro hs6 (Nat.le_trans HI.out.2 hk6.size))
        have P0 := Lib.hid (P0.out.keeps hk6)
        have P1 := Lib.hid (P1.out.keeps hk6)
        have P2 := Lib.hid (P2.out.keeps hk6)
        have HK := Lib.hid (HK.out.trans' hk6)
        clear hi6 hi6' hb6 hk6 hs6
        go_wp2_with fail
        refine (F.rseal_ok _ 3 _ _ _ _ (colUp f k 3) rfl HI.out.1 (colUp_byte f k 3) (by omega) (by have := HL.out.2; omega)).mono ?_
        intro e w9 hp
        obtain ⟨A9, c9, rfl, ho9, hk9⟩ := hp
        have HP := Lib.hid (And.intro ho9 hk9)
        clear ho9 hk9
        go_wp2_with fail
        go_ret2
        exact col_good HV.out HK.out ⟨A9, c9, rfl, HP.out.1, HP.out.2⟩
end Go.Proofs.Ytopbbicjbjmdnaa
namespace Go.Proofs.Ytopbbicjbjmdnaa
open Go.RowKit Go.Maps
set_option maxRecDepth 100000
set_option linter.unusedVariables false
set_option linter.unusedSimpArgs false
set_option maxHeartbeats 4000000 in
theorem fine_any (w : World) (A : Option Addr) (n c : Nat) (f : Nat → Pt) (hsl : SlP w (fun q => q < w.heap.size) A n f) (hn : n ≤ 4096) (hc : n ≤ c) (hcm : c ≤ 9223372036854775807) :
    Calls Try.prog 17 #[.slice A n c] w fun e w' => e = .returned (.bool (bV f n (nbl n) && decide (0 < n))) ∧ Below w.heap.size w w' := by
  have H0 := Lib.hid hsl
  clear hsl
  go_enter Try.func17, Try.ntmps17
  rcases Nat.eq_zero_or_pos n with h0 | h0
  · subst h0
    go_wp2_with fail
    go_ret
    exact ⟨by simp, Below.refl _ _⟩
  have d0 : ((n : Int) == 0) = false := by simp; omega
  go_wp2_with fail
  go_loopw [3] (fun i wr => ∃ (k : Nat), k ≤ nbl n ∧ i = .int .i64 ((1024 * k : Nat) : Int) ∧ bV f n k = true ∧ Below w.heap.size w wr) (fun i _ => n - (intOf i).toNat)
  case atStart => exact ⟨0, by omega, rfl, rfl, Below.refl _ _⟩
  case round =>
    obtain ⟨k, hk, rfl, hv, hT⟩ := hrel
    clear d0
    by_cases hlt : 1024 * k < n
    · obtain ⟨b, off, hA, hbl, hcell⟩ := H0.out (by omega)
      subst hA
      obtain ⟨a, ha⟩ : ∃ a, a = 1024 * k := ⟨_, rfl⟩
      rw [← ha]
      have hlt' : (a : Int) < (n : Int) := by omega
      have HT := Lib.hid (And.intro hT (And.intro hv (And.intro ha hcell)))
      clear hT hv hcell ha
      obtain ⟨ee, hee⟩ : ∃ e : Nat, e = min (a + 1024) n := ⟨_, rfl⟩
      have HEE := Lib.hid hee
      clear hee
      go_upto_if 19 with (fail)
      go_cut [4] (fun s4 wx => s4 = .int .i64 (ee : Nat) ∧ wr = wx)
      case first =>
        by_cases h : n < a + 1024
        · have d1 : decide ((n : Int) < (a : Int) + 1024) = true := by simp; omega
          have d2 : (n : Int) < (a : Int) + 1024 := by omega
          have hq : ee = n := by rw [HEE.out]; omega
          subst hq
          clear h
          go_wp2_with fail
          go_meet
          exact ⟨rfl, rfl⟩
        · have d1 : decide ((n : Int) < (a : Int) + 1024) = false := by simp; omega
          have d2 : ¬ (n : Int) < (a : Int) + 1024 := by omega
          have hq : ((ee : Nat) : Int) = (a : Int) + 1024 := by rw [HEE.out]; omega
          have HQ := Lib.hid hq
          clear h hq
          go_wp2_with fail
          go_meet
          exact ⟨by rw [HQ.out], rfl⟩
      case rest =>
        obtain ⟨rfl, rfl⟩ := hcut
        obtain ⟨p, hpe⟩ : ∃ p, p = blkN n a := ⟨_, rfl⟩
        have hp : ee - a = p := by rw [hpe, HEE.out]; rfl
        have hp0 : 0 < p := by rw [hpe]; unfold blkN; omega
        have hp1 : p ≤ 1024 := by rw [hpe]; unfold blkN; omega
        have hpn : a + p ≤ n := by rw [hpe]; unfold blkN; omega
        have hae : a ≤ ee := by omega
        have hen : ee ≤ n := by omega
        have hsp : ∀ wx, Below w.heap.size w wx → SlP wx (fun q => q < w.heap.size) (some ⟨b, off + a * 3, none⟩) p (shiftP f a) := by
          intro wx hx
          have h1 : SlP wx (fun q => q < w.heap.size) (some ⟨b, off, none⟩) (a + p) f := (H0.out.below hx).take hpn
          exact h1.drop
        have hst : stepV f n k = (colV (shiftP f a) p && (k == 0 || decide ((f (a - 1)).t < (f a).t))) := by unfold stepV; rw [← HT.out.2.2.1, ← hpe]
        have HP := Lib.hid (And.intro hpe (And.intro hsp hst))
        clear hpe hsp hst
        have hval := fun (wx : World) (hx : Below w.heap.size w wx) => rcvalid_any (some ⟨b, off + a * 3, none⟩) p (c - a) (shiftP f a) _ wx (HP.out.2.1 wx hx) (by omega)
        have HV := Lib.hid hval
        clear hval
        go_upto_region 9 with (fail)
        have hS0 := HT.out.1
        have hS : (Below w.heap.size w) (wr.drew) := hS0.drew
        refine reg_start (Below w.heap.size w) (by kernel_rfl) hS ?_
        refine reg_take (i := 0) (v := ?_) rfl (by kernel_rfl) (by kernel_rfl) (by kernel_rfl) (fun _ _ _ h => h) (Or.inl ⟨by kernel_rfl, ?_⟩) hS ?_
        rotate_left
        · (intro w' hSw; go_simp <;> with_reducible rfl)
        try simp only [List.getElem_toArray, List.getElem_cons_succ, List.getElem_cons_zero, Act.put, List.setIfInBounds_toArray, List.set_cons_zero, List.set_cons_succ]
        refine reg_take (i := 1) (v := ?_) rfl (by kernel_rfl) (by kernel_rfl) (by kernel_rfl) (fun _ _ _ h => h) (Or.inl ⟨by kernel_rfl, ?_⟩) hS ?_
        rotate_left
        · (intro w' hSw; go_simp <;> with_reducible rfl)
        try simp only [List.getElem_toArray, List.getElem_cons_succ, List.getElem_cons_zero, Act.put, List.setIfInBounds_toArray, List.set_cons_zero, List.set_cons_succ]
        refine reg_take (i := 2) (v := ?_) rfl (by kernel_rfl) (by kernel_rfl) (by kernel_rfl) (fun _ _ _ h => h) (Or.inl ⟨by kernel_rfl, ?_⟩) hS ?_
        rotate_left
        · (intro w' hSw; go_simp <;> with_reducible rfl)
        try simp only [List.getElem_toArray, List.getElem_cons_succ, List.getElem_cons_zero, Act.put, List.setIfInBounds_toArray, List.set_cons_zero, List.set_cons_succ]
        refine reg_take (i := 3) (v := ?_) rfl (by kernel_rfl) (by kernel_rfl) (by kernel_rfl) (fun _ _ _ h => h) (Or.inl ⟨by kernel_rfl, ?_⟩) hS ?_
        rotate_left
        · (intro w' hSw; have g1 : ee ≤ c := (by omega); have g2 : ¬ c = a := (by omega); go_simp <;> with_reducible rfl)
        try simp only [List.getElem_toArray, List.getElem_cons_succ, List.getElem_cons_zero, Act.put, List.setIfInBounds_toArray, List.set_cons_zero, List.set_cons_succ]
        refine reg_call (i := 4) rfl (by kernel_rfl) (fun K hK => ?_)
        have HK := Lib.hid hK
        clear hK
        go_simp
        refine (HV.out _ hS).mono ?_
        rintro e w6 ⟨rfl, hb6⟩
        have H6 := Lib.hid (hS.trans (hb6.mono hS.size))
        clear hb6
        cases hcv : colV (shiftP f a) p with
        | false =>
          have HF := Lib.hid (show bV f n (nbl n) = false from bV_bad (k := k) (by rw [HP.out.2.2, hcv]; rfl) _ (by unfold nbl; have := HT.out.2.2.1; omega))
          clear hcv
          go_wp2_with fail
          refine HK.out.to (Below w.heap.size w) (fun _ h => h) (H6.out) ?_
          clear HK hS
          have hS : (Below w.heap.size w) (w6) := H6.out
          try simp only [List.getElem_toArray, List.getElem_cons_succ, List.getElem_cons_zero, Act.put, List.setIfInBounds_toArray, List.set_cons_zero, List.set_cons_succ]
          refine reg_take (i := 5) (v := ?_) rfl (by kernel_rfl) (by kernel_rfl) (by kernel_rfl) (fun _ _ _ h => h) (Or.inl ⟨by kernel_rfl, ?_⟩) hS ?_
          rotate_left
          · (intro w' hSw; go_simp <;> with_reducible rfl)
          try simp only [List.getElem_toArray, List.getElem_cons_succ, List.getElem_cons_zero, Act.put, List.setIfInBounds_toArray, List.set_cons_zero, List.set_cons_succ]
          refine reg_take (i := 6) (v := ?_) rfl (by kernel_rfl) (by kernel_rfl) (by kernel_rfl) (fun _ _ _ h => h) (Or.inl ⟨by kernel_rfl, ?_⟩) hS ?_
          rotate_left
          · (intro w' hSw; go_simp <;> with_reducible rfl)
          try simp only [List.getElem_toArray, List.getElem_cons_succ, List.getElem_cons_zero, Act.put, List.setIfInBounds_toArray, List.set_cons_zero, List.set_cons_succ]
          refine reg_take (i := 7) (v := undef) rfl (by kernel_rfl) (by kernel_rfl) (by kernel_rfl) (fun _ _ _ h => h) (Or.inr ⟨by kernel_rfl, rfl⟩) hS ?_
          try simp only [List.getElem_toArray, List.getElem_cons_succ, List.getElem_cons_zero, Act.put, List.setIfInBounds_toArray, List.set_cons_zero, List.set_cons_succ]
          refine reg_take (i := 8) (v := undef) rfl (by kernel_rfl) (by kernel_rfl) (by kernel_rfl) (fun _ _ _ h => h) (Or.inr ⟨by kernel_rfl, rfl⟩) hS ?_
          try simp only [List.getElem_toArray, List.getElem_cons_succ, List.getElem_cons_zero, Act.put, List.setIfInBounds_toArray, List.set_cons_zero, List.set_cons_succ]
          refine reg_take (i := 9) (v := undef) rfl (by kernel_rfl) (by kernel_rfl) (by kernel_rfl) (fun _ _ _ h => h) (Or.inr ⟨by kernel_rfl, rfl⟩) hS ?_
          try simp only [List.getElem_toArray, List.getElem_cons_succ, List.getElem_cons_zero, Act.put, List.setIfInBounds_toArray, List.set_cons_zero, List.set_cons_succ]
          refine reg_take (i := 10) (v := undef) rfl (by kernel_rfl) (by kernel_rfl) (by kernel_rfl) (fun _ _ _ h => h) (Or.inr ⟨by kernel_rfl, rfl⟩) hS ?_
          try simp only [List.getElem_toArray, List.getElem_cons_succ, List.getElem_cons_zero, Act.put, List.setIfInBounds_toArray, List.set_cons_zero, List.set_cons_succ]
          refine reg_take (i := 11) (v := undef) rfl (by kernel_rfl) (by kernel_rfl) (by kernel_rfl) (fun _ _ _ h => h) (Or.inr ⟨by kernel_rfl, rfl⟩) hS ?_
          try simp only [List.getElem_toArray, List.getElem_cons_succ, List.getElem_cons_zero, Act.put, List.setIfInBounds_toArray, List.set_cons_zero, List.set_cons_succ]
          refine reg_take (i := 12) (v := undef) rfl (by kernel_rfl) (by kernel_rfl) (by kernel_rfl) (fun _ _ _ h => h) (Or.inr ⟨by kernel_rfl, rfl⟩) hS ?_
          try simp only [List.getElem_toArray, List.getElem_cons_succ, List.getElem_cons_zero, Act.put, List.setIfInBounds_toArray, List.set_cons_zero, List.set_cons_succ]
          refine reg_take (i := 13) (v := undef) rfl (by kernel_rfl) (by kernel_rfl) (by kernel_rfl) (fun _ _ _ h => h) (Or.inr ⟨by kernel_rfl, rfl⟩) hS ?_
          try simp only [List.getElem_toArray, List.getElem_cons_succ, List.getElem_cons_zero, Act.put, List.setIfInBounds_toArray, List.set_cons_zero, List.set_cons_succ]
          refine reg_take (i := 14) (v := undef) rfl (by kernel_rfl) (by kernel_rfl) (by kernel_rfl) (fun _ _ _ h => h) (Or.inr ⟨by kernel_rfl, rfl⟩) hS ?_
          try simp only [List.getElem_toArray, List.getElem_cons_succ, List.getElem_cons_zero, Act.put, List.setIfInBounds_toArray, List.set_cons_zero, List.set_cons_succ]
          refine reg_take (i := 15) (v := undef) rfl (by kernel_rfl) (by kernel_rfl) (by kernel_rfl) (fun _ _ _ h => h) (Or.inr ⟨by kernel_rfl, rfl⟩) hS ?_
          try simp only [List.getElem_toArray, List.getElem_cons_succ, List.getElem_cons_zero, Act.put, List.setIfInBounds_toArray, List.set_cons_zero, List.set_cons_succ]
          refine reg_take (i := 16) (v := undef) rfl (by kernel_rfl) (by kernel_rfl) (by kernel_rfl) (fun _ _ _ h => h) (Or.inr ⟨by kernel_rfl, rfl⟩) hS ?_
          try simp only [List.getElem_toArray, List.getElem_cons_succ, List.getElem_cons_zero, Act.put, List.setIfInBounds_toArray, List.set_cons_zero, List.set_cons_succ]
          refine reg_take (i := 17) (v := undef) rfl (by kernel_rfl) (by kernel_rfl) (by kernel_rfl) (fun _ _ _ h => h) (Or.inr ⟨by kernel_rfl, rfl⟩) hS ?_
          try simp only [List.getElem_toArray, List.getElem_cons_succ, List.getElem_cons_zero, Act.put, List.setIfInBounds_toArray, List.set_cons_zero, List.set_cons_succ]
          refine reg_take (i := 18) (v := undef) rfl (by kernel_rfl) (by kernel_rfl) (by kernel_rfl) (fun _ _ _ h => h) (Or.inr ⟨by kernel_rfl, rfl⟩) hS ?_
          try simp only [List.getElem_toArray, List.getElem_cons_succ, List.getElem_cons_zero, Act.put, List.setIfInBounds_toArray, List.set_cons_zero, List.set_cons_succ]
          refine reg_take (i := 19) (v := undef) rfl (by kernel_rfl) (by kernel_rfl) (by kernel_rfl) (fun _ _ _ h => h) (Or.inr ⟨by kernel_rfl, rfl⟩) hS ?_
          try simp only [List.getElem_toArray, List.getElem_cons_succ, List.getElem_cons_zero, Act.put, List.setIfInBounds_toArray, List.set_cons_zero, List.set_cons_succ]
          refine reg_take (i := 20) (v := undef) rfl (by kernel_rfl) (by kernel_rfl) (by kernel_rfl) (fun _ _ _ h => h) (Or.inr ⟨by kernel_rfl, rfl⟩) hS ?_
          try simp only [List.getElem_toArray, List.getElem_cons_succ, List.getElem_cons_zero, Act.put, List.setIfInBounds_toArray, List.set_cons_zero, List.set_cons_succ]
          refine reg_take (i := 21) (v := undef) rfl (by kernel_rfl) (by kernel_rfl) (by kernel_rfl) (fun _ _ _ h => h) (Or.inr ⟨by kernel_rfl, rfl⟩) hS ?_
          try simp only [List.getElem_toArray, List.getElem_cons_succ, List.getElem_cons_zero, Act.put, List.setIfInBounds_toArray, List.set_cons_zero, List.set_cons_succ]
          refine reg_take (i := 22) (v := undef) rfl (by kernel_rfl) (by kernel_rfl) (by kernel_rfl) (fun _ _ _ h => h) (Or.inr ⟨by kernel_rfl, rfl⟩) hS ?_
          try simp only [List.getElem_toArray, List.getElem_cons_succ, List.getElem_cons_zero, Act.put, List.setIfInBounds_toArray, List.set_cons_zero, List.set_cons_succ]
          refine reg_take (i := 23) (v := ?_) rfl (by kernel_rfl) (by kernel_rfl) (by kernel_rfl) (fun _ _ _ h => h) (Or.inl ⟨by kernel_rfl, ?_⟩) hS ?_
          rotate_left
          · (intro w' hSw; go_simp <;> with_reducible rfl)
          try simp only [List.getElem_toArray, List.getElem_cons_succ, List.getElem_cons_zero, Act.put, List.setIfInBounds_toArray, List.set_cons_zero, List.set_cons_succ]
          refine wpAnyH_done (by kernel_rfl) ?_ _
          try simp only [List.getElem_toArray, List.getElem_cons_succ, List.getElem_cons_zero]
          try simp only [List.getElem_toArray, List.getElem_cons_succ, List.getElem_cons_zero, Act.put, List.setIfInBounds_toArray, List.set_cons_zero, List.set_cons_succ]
          have HG := Lib.hid hS
          clear hS
          go_wp2_with fail
          go_ret
          exact ⟨by rw [HF.out]; rfl, HG.out⟩
        | true =>
          have HCV := Lib.hid hcv
          clear hcv
          go_wp2_with fail
          refine HK.out.to (Below w.heap.size w) (fun _ h => h) (H6.out) ?_
          clear HK hS
          have hS : (Below w.heap.size w) (w6) := H6.out
          try simp only [List.getElem_toArray, List.getElem_cons_succ, List.getElem_cons_zero, Act.put, List.setIfInBounds_toArray, List.set_cons_zero, List.set_cons_succ]
          have hce : ∀ wx, Below w.heap.size w wx → ∀ j, j < n → wx.cell? ⟨b, off + j * 3, none⟩ = some (.int .i64 (f j).t) := fun wx hx j hj => (hx.cell (by exact hbl)).trans (HT.out.2.2.2 j hj).1
          have HCE := Lib.hid hce
          clear hce
          by_cases ha0 : a = 0
          · have hk0 : k = 0 := by have := HT.out.2.2.1; omega
            have HO := Lib.hid (show stepV f n k = true by rw [HP.out.2.2, HCV.out, hk0]; rfl)
            have d0 : decide ((0 : Int) < (a : Int)) = false := by simp; omega
            have d0' : decide (0 < a) = false := by simp; omega
            clear ha0 hk0
            refine reg_take (i := 5) (v := ?_) rfl (by kernel_rfl) (by kernel_rfl) (by kernel_rfl) (fun _ _ _ h => h) (Or.inl ⟨by kernel_rfl, ?_⟩) hS ?_
            rotate_left
            · (intro w' hSw; go_simp <;> with_reducible rfl)
            try simp only [List.getElem_toArray, List.getElem_cons_succ, List.getElem_cons_zero, Act.put, List.setIfInBounds_toArray, List.set_cons_zero, List.set_cons_succ]
            refine reg_take (i := 6) (v := ?_) rfl (by kernel_rfl) (by kernel_rfl) (by kernel_rfl) (fun _ _ _ h => h) (Or.inl ⟨by kernel_rfl, ?_⟩) hS ?_
            rotate_left
            · (intro w' hSw; go_simp <;> with_reducible rfl)
            try simp only [List.getElem_toArray, List.getElem_cons_succ, List.getElem_cons_zero, Act.put, List.setIfInBounds_toArray, List.set_cons_zero, List.set_cons_succ]
            refine reg_take (i := 7) (v := ?_) rfl (by kernel_rfl) (by kernel_rfl) (by kernel_rfl) (fun _ _ _ h => h) (Or.inl ⟨by kernel_rfl, ?_⟩) hS ?_
            rotate_left
            · (intro w' hSw; go_simp <;> with_reducible rfl)
            try simp only [List.getElem_toArray, List.getElem_cons_succ, List.getElem_cons_zero, Act.put, List.setIfInBounds_toArray, List.set_cons_zero, List.set_cons_succ]
            refine reg_take (i := 8) (v := ?_) rfl (by kernel_rfl) (by kernel_rfl) (by kernel_rfl) (fun _ _ _ h => h) (Or.inl ⟨by kernel_rfl, ?_⟩) hS ?_
            rotate_left
            · (intro w' hSw; go_simp <;> with_reducible rfl)
            try simp only [List.getElem_toArray, List.getElem_cons_succ, List.getElem_cons_zero, Act.put, List.setIfInBounds_toArray, List.set_cons_zero, List.set_cons_succ]
            refine reg_take (i := 9) (v := ?_) rfl (by kernel_rfl) (by kernel_rfl) (by kernel_rfl) (fun _ _ _ h => h) (Or.inl ⟨by kernel_rfl, ?_⟩) hS ?_
            rotate_left
            · (intro w' hSw; go_simp <;> with_reducible rfl)
            try simp only [List.getElem_toArray, List.getElem_cons_succ, List.getElem_cons_zero, Act.put, List.setIfInBounds_toArray, List.set_cons_zero, List.set_cons_succ]
            refine reg_take (i := 10) (v := undef) rfl (by kernel_rfl) (by kernel_rfl) (by kernel_rfl) (fun _ _ _ h => h) (Or.inr ⟨by kernel_rfl, rfl⟩) hS ?_
            try simp only [List.getElem_toArray, List.getElem_cons_succ, List.getElem_cons_zero, Act.put, List.setIfInBounds_toArray, List.set_cons_zero, List.set_cons_succ]
            refine reg_take (i := 11) (v := undef) rfl (by kernel_rfl) (by kernel_rfl) (by kernel_rfl) (fun _ _ _ h => h) (Or.inr ⟨by kernel_rfl, rfl⟩) hS ?_
            try simp only [List.getElem_toArray, List.getElem_cons_succ, List.getElem_cons_zero, Act.put, List.setIfInBounds_toArray, List.set_cons_zero, List.set_cons_succ]
            refine reg_take (i := 12) (v := undef) rfl (by kernel_rfl) (by kernel_rfl) (by kernel_rfl) (fun _ _ _ h => h) (Or.inr ⟨by kernel_rfl, rfl⟩) hS ?_
            try simp only [List.getElem_toArray, List.getElem_cons_succ, List.getElem_cons_zero, Act.put, List.setIfInBounds_toArray, List.set_cons_zero, List.set_cons_succ]
            refine reg_take (i := 13) (v := undef) rfl (by kernel_rfl) (by kernel_rfl) (by kernel_rfl) (fun _ _ _ h => h) (Or.inr ⟨by kernel_rfl, rfl⟩) hS ?_
            try simp only [List.getElem_toArray, List.getElem_cons_succ, List.getElem_cons_zero, Act.put, List.setIfInBounds_toArray, List.set_cons_zero, List.set_cons_succ]
            refine reg_take (i := 14) (v := undef) rfl (by kernel_rfl) (by kernel_rfl) (by kernel_rfl) (fun _ _ _ h => h) (Or.inr ⟨by kernel_rfl, rfl⟩) hS ?_
            try simp only [List.getElem_toArray, List.getElem_cons_succ, List.getElem_cons_zero, Act.put, List.setIfInBounds_toArray, List.set_cons_zero, List.set_cons_succ]
            refine reg_take (i := 15) (v := undef) rfl (by kernel_rfl) (by kernel_rfl) (by kernel_rfl) (fun _ _ _ h => h) (Or.inr ⟨by kernel_rfl, rfl⟩) hS ?_
            try simp only [List.getElem_toArray, List.getElem_cons_succ, List.getElem_cons_zero, Act.put, List.setIfInBounds_toArray, List.set_cons_zero, List.set_cons_succ]
            refine reg_take (i := 16) (v := undef) rfl (by kernel_rfl) (by kernel_rfl) (by kernel_rfl) (fun _ _ _ h => h) (Or.inr ⟨by kernel_rfl, rfl⟩) hS ?_
            try simp only [List.getElem_toArray, List.getElem_cons_succ, List.getElem_cons_zero, Act.put, List.setIfInBounds_toArray, List.set_cons_zero, List.set_cons_succ]
            refine reg_take (i := 17) (v := undef) rfl (by kernel_rfl) (by kernel_rfl) (by kernel_rfl) (fun _ _ _ h => h) (Or.inr ⟨by kernel_rfl, rfl⟩) hS ?_
            try simp only [List.getElem_toArray, List.getElem_cons_succ, List.getElem_cons_zero, Act.put, List.setIfInBounds_toArray, List.set_cons_zero, List.set_cons_succ]
            refine reg_take (i := 18) (v := undef) rfl (by kernel_rfl) (by kernel_rfl) (by kernel_rfl) (fun _ _ _ h => h) (Or.inr ⟨by kernel_rfl, rfl⟩) hS ?_
            try simp only [List.getElem_toArray, List.getElem_cons_succ, List.getElem_cons_zero, Act.put, List.setIfInBounds_toArray, List.set_cons_zero, List.set_cons_succ]
            refine reg_take (i := 19) (v := undef) rfl (by kernel_rfl) (by kernel_rfl) (by kernel_rfl) (fun _ _ _ h => h) (Or.inr ⟨by kernel_rfl, rfl⟩) hS ?_
            try simp only [List.getElem_toArray, List.getElem_cons_succ, List.getElem_cons_zero, Act.put, List.setIfInBounds_toArray, List.set_cons_zero, List.set_cons_succ]
            refine reg_take (i := 20) (v := undef) rfl (by kernel_rfl) (by kernel_rfl) (by kernel_rfl) (fun _ _ _ h => h) (Or.inr ⟨by kernel_rfl, rfl⟩) hS ?_
            try simp only [List.getElem_toArray, List.getElem_cons_succ, List.getElem_cons_zero, Act.put, List.setIfInBounds_toArray, List.set_cons_zero, List.set_cons_succ]
            refine reg_take (i := 21) (v := undef) rfl (by kernel_rfl) (by kernel_rfl) (by kernel_rfl) (fun _ _ _ h => h) (Or.inr ⟨by kernel_rfl, rfl⟩) hS ?_
            try simp only [List.getElem_toArray, List.getElem_cons_succ, List.getElem_cons_zero, Act.put, List.setIfInBounds_toArray, List.set_cons_zero, List.set_cons_succ]
            refine reg_take (i := 22) (v := ?_) rfl (by kernel_rfl) (by kernel_rfl) (by kernel_rfl) (fun _ _ _ h => h) (Or.inl ⟨by kernel_rfl, ?_⟩) hS ?_
            rotate_left
            · (intro w' hSw; go_simp <;> with_reducible rfl)
            try simp only [List.getElem_toArray, List.getElem_cons_succ, List.getElem_cons_zero, Act.put, List.setIfInBounds_toArray, List.set_cons_zero, List.set_cons_succ]
            refine reg_take (i := 23) (v := ?_) rfl (by kernel_rfl) (by kernel_rfl) (by kernel_rfl) (fun _ _ _ h => h) (Or.inl ⟨by kernel_rfl, ?_⟩) hS ?_
            rotate_left
            · (intro w' hSw; go_simp <;> with_reducible rfl)
            try simp only [List.getElem_toArray, List.getElem_cons_succ, List.getElem_cons_zero, Act.put, List.setIfInBounds_toArray, List.set_cons_zero, List.set_cons_succ]
            refine wpAnyH_done (by kernel_rfl) ?_ _
            try simp only [List.getElem_toArray, List.getElem_cons_succ, List.getElem_cons_zero]
            try simp only [List.getElem_toArray, List.getElem_cons_succ, List.getElem_cons_zero, Act.put, List.setIfInBounds_toArray, List.set_cons_zero, List.set_cons_succ]
            have HG := Lib.hid hS
            clear hS
            go_wp2_with fail
            go_roundw
            case rel =>
              refine ⟨k + 1, by unfold nbl; have := HT.out.2.2.1; omega, by congr 1; have := HT.out.2.2.1; omega, ?_, HG.out⟩
              show (bV f n k && stepV f n k) = true
              rw [HT.out.2.1, HO.out]; rfl
            case measure => simp [intOf] <;> omega
          · have d0 : decide ((0 : Int) < (a : Int)) = true := by simp; omega
            have d0' : decide (0 < a) = true := by simp; omega
            obtain ⟨q, hq⟩ : ∃ q, q = a - 1 := ⟨_, rfl⟩
            have km : ((a : Int) - 1) = (q : Int) := by omega
            have kw : IntKind.i64.wrap (q : Int) = (q : Int) := IntWalk.i64_in _ (by omega)
            have hqn : (q : Int) < (n : Int) := by omega
            have hqn' : q < n := by omega
            have hst : stepV f n k = !decide ((f a).t ≤ (f q).t) := by
              rw [HP.out.2.2, HCV.out, hq]
              have hk : (k == 0) = false := by have := HT.out.2.2.1; simp; omega
              rw [hk]
              by_cases g : (f (a - 1)).t < (f a).t
              · rw [decide_eq_true g, decide_eq_false (by omega)]; rfl
              · rw [decide_eq_false g, decide_eq_true (by omega)]; rfl
            have HST := Lib.hid hst
            clear hst ha0 hq
            refine reg_take (i := 5) (v := ?_) rfl (by kernel_rfl) (by kernel_rfl) (by kernel_rfl) (fun _ _ _ h => h) (Or.inl ⟨by kernel_rfl, ?_⟩) hS ?_
            rotate_left
            · (intro w' hSw; go_simp <;> with_reducible rfl)
            try simp only [List.getElem_toArray, List.getElem_cons_succ, List.getElem_cons_zero, Act.put, List.setIfInBounds_toArray, List.set_cons_zero, List.set_cons_succ]
            refine reg_take (i := 6) (v := ?_) rfl (by kernel_rfl) (by kernel_rfl) (by kernel_rfl) (fun _ _ _ h => h) (Or.inl ⟨by kernel_rfl, ?_⟩) hS ?_
            rotate_left
            · (intro w' hSw; go_simp <;> with_reducible rfl)
            try simp only [List.getElem_toArray, List.getElem_cons_succ, List.getElem_cons_zero, Act.put, List.setIfInBounds_toArray, List.set_cons_zero, List.set_cons_succ]
            refine reg_take (i := 7) (v := ?_) rfl (by kernel_rfl) (by kernel_rfl) (by kernel_rfl) (fun _ _ _ h => h) (Or.inl ⟨by kernel_rfl, ?_⟩) hS ?_
            rotate_left
            · (intro w' hSw; go_simp <;> with_reducible rfl)
            try simp only [List.getElem_toArray, List.getElem_cons_succ, List.getElem_cons_zero, Act.put, List.setIfInBounds_toArray, List.set_cons_zero, List.set_cons_succ]
            refine reg_take (i := 8) (v := ?_) rfl (by kernel_rfl) (by kernel_rfl) (by kernel_rfl) (fun _ _ _ h => h) (Or.inl ⟨by kernel_rfl, ?_⟩) hS ?_
            rotate_left
            · (intro w' hSw; go_simp <;> with_reducible rfl)
            try simp only [List.getElem_toArray, List.getElem_cons_succ, List.getElem_cons_zero, Act.put, List.setIfInBounds_toArray, List.set_cons_zero, List.set_cons_succ]
            refine reg_take (i := 9) (v := ?_) rfl (by kernel_rfl) (by kernel_rfl) (by kernel_rfl) (fun _ _ _ h => h) (Or.inl ⟨by kernel_rfl, ?_⟩) hS ?_
            rotate_left
            · (intro w' hSw; go_simp <;> with_reducible rfl)
            try simp only [List.getElem_toArray, List.getElem_cons_succ, List.getElem_cons_zero, Act.put, List.setIfInBounds_toArray, List.set_cons_zero, List.set_cons_succ]
            refine reg_take (i := 10) (v := ?_) rfl (by kernel_rfl) (by kernel_rfl) (by kernel_rfl) (fun _ _ _ h => h) (Or.inl ⟨by kernel_rfl, ?_⟩) hS ?_
            rotate_left
            · (intro w' hSw; go_simp <;> with_reducible rfl)
            try simp only [List.getElem_toArray, List.getElem_cons_succ, List.getElem_cons_zero, Act.put, List.setIfInBounds_toArray, List.set_cons_zero, List.set_cons_succ]
            refine reg_take (i := 11) (v := ?_) rfl (by kernel_rfl) (by kernel_rfl) (by kernel_rfl) (fun _ _ _ h => h) (Or.inl ⟨by kernel_rfl, ?_⟩) hS ?_
            rotate_left
            · (intro w' hSw; go_simp <;> with_reducible rfl)
            try simp only [List.getElem_toArray, List.getElem_cons_succ, List.getElem_cons_zero, Act.put, List.setIfInBounds_toArray, List.set_cons_zero, List.set_cons_succ]
            refine reg_take (i := 12) (v := ?_) rfl (by kernel_rfl) (by kernel_rfl) (by kernel_rfl) (fun _ _ _ h => h) (Or.inl ⟨by kernel_rfl, ?_⟩) hS ?_
            rotate_left
            · (intro w' hSw; go_simp <;> with_reducible rfl)
            try simp only [List.getElem_toArray, List.getElem_cons_succ, List.getElem_cons_zero, Act.put, List.setIfInBounds_toArray, List.set_cons_zero, List.set_cons_succ]
            refine reg_take (i := 13) (v := ?_) rfl (by kernel_rfl) (by kernel_rfl) (by kernel_rfl) (fun _ _ _ h => h) (Or.inl ⟨by kernel_rfl, ?_⟩) hS ?_
            rotate_left
            · (intro w' hSw; go_simp <;> with_reducible rfl)
            try simp only [List.getElem_toArray, List.getElem_cons_succ, List.getElem_cons_zero, Act.put, List.setIfInBounds_toArray, List.set_cons_zero, List.set_cons_succ]
            refine reg_take (i := 14) (v := ?_) rfl (by kernel_rfl) (by kernel_rfl) (by kernel_rfl) (fun _ _ _ h => h) (Or.inl ⟨by kernel_rfl, ?_⟩) hS ?_
            rotate_left
            · (intro w' hSw; have u0 := HCE.out w' hSw a (by omega); go_simp <;> with_reducible rfl)
            try simp only [List.getElem_toArray, List.getElem_cons_succ, List.getElem_cons_zero, Act.put, List.setIfInBounds_toArray, List.set_cons_zero, List.set_cons_succ]
            refine reg_take (i := 15) (v := ?_) rfl (by kernel_rfl) (by kernel_rfl) (by kernel_rfl) (fun _ _ _ h => h) (Or.inl ⟨by kernel_rfl, ?_⟩) hS ?_
            rotate_left
            · (intro w' hSw; go_simp <;> with_reducible rfl)
            try simp only [List.getElem_toArray, List.getElem_cons_succ, List.getElem_cons_zero, Act.put, List.setIfInBounds_toArray, List.set_cons_zero, List.set_cons_succ]
            refine reg_take (i := 16) (v := ?_) rfl (by kernel_rfl) (by kernel_rfl) (by kernel_rfl) (fun _ _ _ h => h) (Or.inl ⟨by kernel_rfl, ?_⟩) hS ?_
            rotate_left
            · (intro w' hSw; go_simp <;> with_reducible rfl)
            try simp only [List.getElem_toArray, List.getElem_cons_succ, List.getElem_cons_zero, Act.put, List.setIfInBounds_toArray, List.set_cons_zero, List.set_cons_succ]
            refine reg_take (i := 17) (v := ?_) rfl (by kernel_rfl) (by kernel_rfl) (by kernel_rfl) (fun _ _ _ h => h) (Or.inl ⟨by kernel_rfl, ?_⟩) hS ?_
            rotate_left
            · (intro w' hSw; go_simp <;> with_reducible rfl)
            try simp only [List.getElem_toArray, List.getElem_cons_succ, List.getElem_cons_zero, Act.put, List.setIfInBounds_toArray, List.set_cons_zero, List.set_cons_succ]
            refine reg_take (i := 18) (v := ?_) rfl (by kernel_rfl) (by kernel_rfl) (by kernel_rfl) (fun _ _ _ h => h) (Or.inl ⟨by kernel_rfl, ?_⟩) hS ?_
            rotate_left
            · (intro w' hSw; go_simp <;> with_reducible rfl)
            try simp only [List.getElem_toArray, List.getElem_cons_succ, List.getElem_cons_zero, Act.put, List.setIfInBounds_toArray, List.set_cons_zero, List.set_cons_succ]
            refine reg_take (i := 19) (v := ?_) rfl (by kernel_rfl) (by kernel_rfl) (by kernel_rfl) (fun _ _ _ h => h) (Or.inl ⟨by kernel_rfl, ?_⟩) hS ?_
            rotate_left
            · (intro w' hSw; go_simp <;> with_reducible rfl)
            try simp only [List.getElem_toArray, List.getElem_cons_succ, List.getElem_cons_zero, Act.put, List.setIfInBounds_toArray, List.set_cons_zero, List.set_cons_succ]
            refine reg_take (i := 20) (v := ?_) rfl (by kernel_rfl) (by kernel_rfl) (by kernel_rfl) (fun _ _ _ h => h) (Or.inl ⟨by kernel_rfl, ?_⟩) hS ?_
            rotate_left
            · (intro w' hSw; have u1 := HCE.out w' hSw q hqn'; go_simp <;> with_reducible rfl)
            try simp only [List.getElem_toArray, List.getElem_cons_succ, List.getElem_cons_zero, Act.put, List.setIfInBounds_toArray, List.set_cons_zero, List.set_cons_succ]
            refine reg_take (i := 21) (v := ?_) rfl (by kernel_rfl) (by kernel_rfl) (by kernel_rfl) (fun _ _ _ h => h) (Or.inl ⟨by kernel_rfl, ?_⟩) hS ?_
            rotate_left
            · (intro w' hSw; go_simp <;> with_reducible rfl)
            try simp only [List.getElem_toArray, List.getElem_cons_succ, List.getElem_cons_zero, Act.put, List.setIfInBounds_toArray, List.set_cons_zero, List.set_cons_succ]
            by_cases hle : (f a).t ≤ (f q).t
            · have d1 : decide ((f a).t ≤ (f q).t) = true := by simp [hle]
              have HF := Lib.hid (show bV f n (nbl n) = false from bV_bad (k := k) (by rw [HST.out, d1]; rfl) _ (by unfold nbl; have := HT.out.2.2.1; omega))
              clear hle
              refine reg_take (i := 22) (v := ?_) rfl (by kernel_rfl) (by kernel_rfl) (by kernel_rfl) (fun _ _ _ h => h) (Or.inl ⟨by kernel_rfl, ?_⟩) hS ?_
              rotate_left
              · (intro w' hSw; go_simp <;> with_reducible rfl)
              try simp only [List.getElem_toArray, List.getElem_cons_succ, List.getElem_cons_zero, Act.put, List.setIfInBounds_toArray, List.set_cons_zero, List.set_cons_succ]
              refine reg_take (i := 23) (v := ?_) rfl (by kernel_rfl) (by kernel_rfl) (by kernel_rfl) (fun _ _ _ h => h) (Or.inl ⟨by kernel_rfl, ?_⟩) hS ?_
              rotate_left
              · (intro w' hSw; go_simp <;> with_reducible rfl)
              try simp only [List.getElem_toArray, List.getElem_cons_succ, List.getElem_cons_zero, Act.put, List.setIfInBounds_toArray, List.set_cons_zero, List.set_cons_succ]
              refine wpAnyH_done (by kernel_rfl) ?_ _
              try simp only [List.getElem_toArray, List.getElem_cons_succ, List.getElem_cons_zero]
              try simp only [List.getElem_toArray, List.getElem_cons_succ, List.getElem_cons_zero, Act.put, List.setIfInBounds_toArray, List.set_cons_zero, List.set_cons_succ]
              have HG := Lib.hid hS
              clear hS
              go_wp2_with fail
              go_ret
              exact ⟨by rw [HF.out]; rfl, HG.out⟩
            · have d1 : decide ((f a).t ≤ (f q).t) = false := by simp; omega
              have HO := Lib.hid (show stepV f n k = true by rw [HST.out, d1]; rfl)
              clear hle
              refine reg_take (i := 22) (v := ?_) rfl (by kernel_rfl) (by kernel_rfl) (by kernel_rfl) (fun _ _ _ h => h) (Or.inl ⟨by kernel_rfl, ?_⟩) hS ?_
              rotate_left
              · (intro w' hSw; go_simp <;> with_reducible rfl)
              try simp only [List.getElem_toArray, List.getElem_cons_succ, List.getElem_cons_zero, Act.put, List.setIfInBounds_toArray, List.set_cons_zero, List.set_cons_succ]
              refine reg_take (i := 23) (v := ?_) rfl (by kernel_rfl) (by kernel_rfl) (by kernel_rfl) (fun _ _ _ h => h) (Or.inl ⟨by kernel_rfl, ?_⟩) hS ?_
              rotate_left
              · (intro w' hSw; go_simp <;> with_reducible rfl)
              try simp only [List.getElem_toArray, List.getElem_cons_succ, List.getElem_cons_zero, Act.put, List.setIfInBounds_toArray, List.set_cons_zero, List.set_cons_succ]
              refine wpAnyH_done (by kernel_rfl) ?_ _
              try simp only [List.getElem_toArray, List.getElem_cons_succ, List.getElem_cons_zero]
              try simp only [List.getElem_toArray, List.getElem_cons_succ, List.getElem_cons_zero, Act.put, List.setIfInBounds_toArray, List.set_cons_zero, List.set_cons_succ]
              have HG := Lib.hid hS
              clear hS
              go_wp2_with fail
              go_roundw
              case rel =>
                refine ⟨k + 1, by unfold nbl; have := HT.out.2.2.1; omega, by congr 1; have := HT.out.2.2.1; omega, ?_, HG.out⟩
                show (bV f n k && stepV f n k) = true
                rw [HT.out.2.1, HO.out]; rfl
              case measure => simp [intOf] <;> omega
    · have HE := Lib.hid (And.intro hT hv)
      clear hT hv
      have hkn : k = nbl n := by unfold nbl at hk ⊢; omega
      have d1 : decide (((1024 * k : Nat) : Int) < (n : Int)) = false := by simp; omega
      have HK := Lib.hid hkn
      clear hkn
      go_wp2_with fail
      go_ret
      exact ⟨by rw [← HK.out, HE.out.2, decide_eq_true h0]; rfl, HE.out.1⟩
end Go.Proofs.Ytopbbicjbjmdnaa
namespace Go.Proofs.Ytopbbicjbjmdnaa
open Go.RowKit
set_option maxRecDepth 100000
set_option linter.unusedVariables false
set_option linter.unusedSimpArgs false
def chB (c : Nat) : Bool := (decide (97 ≤ c) && decide (c ≤ 122)) || ((decide (65 ≤ c) && decide (c ≤ 90)) || ((decide (48 ≤ c) && decide (c ≤ 57)) || (c == 95 || c == 46 || c == 45 || c == 58 || c == 47 || c == 61 || c == 44)))
theorem ch_all : ((List.range 256).all fun c => chA c == chB c) = true := by kernel_rfl
theorem ch_same {c : Nat} (h : c < 256) : chA c = chB c := by
  have := List.all_eq_true.1 ch_all c (List.mem_range.2 h)
  simpa using this
set_option maxHeartbeats 4000000 in
theorem rsValid_any (s : ByteArray) (hs : s.size ≤ 9223372036854775807) (w : World) : Calls Try.prog 16 #[.string s] w fun e w' => e = .returned (.bool (nameOk s)) ∧ Below w.heap.size w w' := by
  go_enter Try.func16, Try.ntmps16
  go_wp2_with fail
  go_loopw [3] (fun i wr => ∃ k : Nat, k ≤ s.size ∧ i = .int .i64 (k : Nat) ∧ (∀ j, j < k → chA (s[j]!).toNat = true) ∧ Below w.heap.size w wr) (fun i _ => s.size - (intOf i).toNat)
  case atStart => exact ⟨0, by omega, rfl, fun j hj => absurd hj (by omega), Below.refl _ _⟩
  case round =>
    obtain ⟨k, hk, rfl, hall, hbel⟩ := hrel
    have HA := Lib.hid (And.intro hall hbel)
    clear hall hbel
    by_cases hlt : k < s.size
    · go_upto_region 5 with (fail)
      obtain ⟨c, hc⟩ : ∃ c : Nat, c = s[k].toNat := ⟨_, rfl⟩
      have hc' : (s[k]!).toNat = c := by rw [hc, getElem!_pos s k hlt]
      have hc256 : c < 256 := by rw [hc]; exact UInt8.toNat_lt _
      rw [← hc]
      have HC := Lib.hid hc'
      clear hc hc'
      by_cases hm : c = 95 ∨ c = 46 ∨ c = 45 ∨ c = 58 ∨ c = 47 ∨ c = 61 ∨ c = 44
      · have HT := Lib.hid (show chA c = true by rw [ch_same hc256]; unfold chB; rcases hm with rfl | rfl | rfl | rfl | rfl | rfl | rfl <;> rfl)
        rcases hm with rfl | rfl | rfl | rfl | rfl | rfl | rfl
        · skip
          clear hc256
          go_wp2_with fail
          go_roundw
          case rel =>
            refine ⟨k + 1, by omega, by go_num, fun j hj => ?_, HA.out.2⟩
            rcases Nat.lt_or_ge j k with h | h
            · exact HA.out.1 j h
            · obtain rfl : j = k := by omega
              rw [HC.out]; exact HT.out
          case measure => simp [intOf] <;> omega
        · skip
          clear hc256
          go_wp2_with fail
          go_roundw
          case rel =>
            refine ⟨k + 1, by omega, by go_num, fun j hj => ?_, HA.out.2⟩
            rcases Nat.lt_or_ge j k with h | h
            · exact HA.out.1 j h
            · obtain rfl : j = k := by omega
              rw [HC.out]; exact HT.out
          case measure => simp [intOf] <;> omega
        · skip
          clear hc256
          go_wp2_with fail
          go_roundw
          case rel =>
            refine ⟨k + 1, by omega, by go_num, fun j hj => ?_, HA.out.2⟩
            rcases Nat.lt_or_ge j k with h | h
            · exact HA.out.1 j h
            · obtain rfl : j = k := by omega
              rw [HC.out]; exact HT.out
          case measure => simp [intOf] <;> omega
        · skip
          clear hc256
          go_wp2_with fail
          go_roundw
          case rel =>
            refine ⟨k + 1, by omega, by go_num, fun j hj => ?_, HA.out.2⟩
            rcases Nat.lt_or_ge j k with h | h
            · exact HA.out.1 j h
            · obtain rfl : j = k := by omega
              rw [HC.out]; exact HT.out
          case measure => simp [intOf] <;> omega
        · skip
          clear hc256
          go_wp2_with fail
          go_roundw
          case rel =>
            refine ⟨k + 1, by omega, by go_num, fun j hj => ?_, HA.out.2⟩
            rcases Nat.lt_or_ge j k with h | h
            · exact HA.out.1 j h
            · obtain rfl : j = k := by omega
              rw [HC.out]; exact HT.out
          case measure => simp [intOf] <;> omega
        · skip
          clear hc256
          go_wp2_with fail
          go_roundw
          case rel =>
            refine ⟨k + 1, by omega, by go_num, fun j hj => ?_, HA.out.2⟩
            rcases Nat.lt_or_ge j k with h | h
            · exact HA.out.1 j h
            · obtain rfl : j = k := by omega
              rw [HC.out]; exact HT.out
          case measure => simp [intOf] <;> omega
        · skip
          clear hc256
          go_wp2_with fail
          go_roundw
          case rel =>
            refine ⟨k + 1, by omega, by go_num, fun j hj => ?_, HA.out.2⟩
            rcases Nat.lt_or_ge j k with h | h
            · exact HA.out.1 j h
            · obtain rfl : j = k := by omega
              rw [HC.out]; exact HT.out
          case measure => simp [intOf] <;> omega
      · obtain ⟨n95, n46, n45, n58, n47, n61, n44⟩ : c ≠ 95 ∧ c ≠ 46 ∧ c ≠ 45 ∧ c ≠ 58 ∧ c ≠ 47 ∧ c ≠ 61 ∧ c ≠ 44 := by omega
        have m95 : ((c : Int) == 95) = false := by simp; omega
        have m46 : ((c : Int) == 46) = false := by simp; omega
        have m45 : ((c : Int) == 45) = false := by simp; omega
        have m58 : ((c : Int) == 58) = false := by simp; omega
        have m47 : ((c : Int) == 47) = false := by simp; omega
        have m61 : ((c : Int) == 61) = false := by simp; omega
        have m44 : ((c : Int) == 44) = false := by simp; omega
        clear hm
        have hiv : (0 ≤ c ∧ c ≤ 47) ∨ (48 ≤ c ∧ c ≤ 57) ∨ (58 ≤ c ∧ c ≤ 64) ∨ (65 ≤ c ∧ c ≤ 90) ∨ (91 ≤ c ∧ c ≤ 96) ∨ (97 ≤ c ∧ c ≤ 122) ∨ (123 ≤ c ∧ c ≤ 255) := by omega
        rcases hiv with hiv | hiv | hiv | hiv | hiv | hiv | hiv
        · skip
          have d0 : decide (97 ≤ (c : Int)) = false := decide_eq_false (by omega)
          have d1 : decide ((c : Int) ≤ 122) = true := decide_eq_true (by omega)
          have d2 : decide (65 ≤ (c : Int)) = false := decide_eq_false (by omega)
          have d3 : decide ((c : Int) ≤ 90) = true := decide_eq_true (by omega)
          have d4 : decide (48 ≤ (c : Int)) = false := decide_eq_false (by omega)
          have d5 : decide ((c : Int) ≤ 57) = true := decide_eq_true (by omega)
          have hch : chA c = false := by
            rw [ch_same hc256]
            unfold chB
            have g : (c == 95) = false ∧ (c == 46) = false ∧ (c == 45) = false ∧ (c == 58) = false ∧ (c == 47) = false ∧ (c == 61) = false ∧ (c == 44) = false := by simp; omega
            simp only [g]
            rw [show decide (97 ≤ c) = false from decide_eq_false (by omega)]
            rw [show decide (c ≤ 122) = true from decide_eq_true (by omega)]
            rw [show decide (65 ≤ c) = false from decide_eq_false (by omega)]
            rw [show decide (c ≤ 90) = true from decide_eq_true (by omega)]
            rw [show decide (48 ≤ c) = false from decide_eq_false (by omega)]
            rw [show decide (c ≤ 57) = true from decide_eq_true (by omega)]
            rfl
          have HT := Lib.hid (name_bad hlt (by rw [HC.out]; exact hch))
          clear hch hiv n95 n46 n45 n58 n47 n61 n44
          clear hc256
          go_wp2_with fail
          go_ret
          exact ⟨by rw [HT.out]; rfl, HA.out.2⟩
        · skip
          have d0 : decide (97 ≤ (c : Int)) = false := decide_eq_false (by omega)
          have d1 : decide ((c : Int) ≤ 122) = true := decide_eq_true (by omega)
          have d2 : decide (65 ≤ (c : Int)) = false := decide_eq_false (by omega)
          have d3 : decide ((c : Int) ≤ 90) = true := decide_eq_true (by omega)
          have d4 : decide (48 ≤ (c : Int)) = true := decide_eq_true (by omega)
          have d5 : decide ((c : Int) ≤ 57) = true := decide_eq_true (by omega)
          have hch : chA c = true := by
            rw [ch_same hc256]
            unfold chB
            have g : (c == 95) = false ∧ (c == 46) = false ∧ (c == 45) = false ∧ (c == 58) = false ∧ (c == 47) = false ∧ (c == 61) = false ∧ (c == 44) = false := by simp; omega
            simp only [g]
            rw [show decide (97 ≤ c) = false from decide_eq_false (by omega)]
            rw [show decide (c ≤ 122) = true from decide_eq_true (by omega)]
            rw [show decide (65 ≤ c) = false from decide_eq_false (by omega)]
            rw [show decide (c ≤ 90) = true from decide_eq_true (by omega)]
            rw [show decide (48 ≤ c) = true from decide_eq_true (by omega)]
            rw [show decide (c ≤ 57) = true from decide_eq_true (by omega)]
            rfl
          have HT := Lib.hid hch
          clear hch hiv n95 n46 n45 n58 n47 n61 n44
          clear hc256
          go_wp2_with fail
          go_roundw
          case rel =>
            refine ⟨k + 1, by omega, by go_num, fun j hj => ?_, HA.out.2⟩
            rcases Nat.lt_or_ge j k with h | h
            · exact HA.out.1 j h
            · obtain rfl : j = k := by omega
              rw [HC.out]; exact HT.out
          case measure => simp [intOf] <;> omega
        · skip
          have d0 : decide (97 ≤ (c : Int)) = false := decide_eq_false (by omega)
          have d1 : decide ((c : Int) ≤ 122) = true := decide_eq_true (by omega)
          have d2 : decide (65 ≤ (c : Int)) = false := decide_eq_false (by omega)
          have d3 : decide ((c : Int) ≤ 90) = true := decide_eq_true (by omega)
          have d4 : decide (48 ≤ (c : Int)) = true := decide_eq_true (by omega)
          have d5 : decide ((c : Int) ≤ 57) = false := decide_eq_false (by omega)
          have hch : chA c = false := by
            rw [ch_same hc256]
            unfold chB
            have g : (c == 95) = false ∧ (c == 46) = false ∧ (c == 45) = false ∧ (c == 58) = false ∧ (c == 47) = false ∧ (c == 61) = false ∧ (c == 44) = false := by simp; omega
            simp only [g]
            rw [show decide (97 ≤ c) = false from decide_eq_false (by omega)]
            rw [show decide (c ≤ 122) = true from decide_eq_true (by omega)]
            rw [show decide (65 ≤ c) = false from decide_eq_false (by omega)]
            rw [show decide (c ≤ 90) = true from decide_eq_true (by omega)]
            rw [show decide (48 ≤ c) = true from decide_eq_true (by omega)]
            rw [show decide (c ≤ 57) = false from decide_eq_false (by omega)]
            rfl
          have HT := Lib.hid (name_bad hlt (by rw [HC.out]; exact hch))
          clear hch hiv n95 n46 n45 n58 n47 n61 n44
          clear hc256
          go_wp2_with fail
          go_ret
          exact ⟨by rw [HT.out]; rfl, HA.out.2⟩
        · skip
          have d0 : decide (97 ≤ (c : Int)) = false := decide_eq_false (by omega)
          have d1 : decide ((c : Int) ≤ 122) = true := decide_eq_true (by omega)
          have d2 : decide (65 ≤ (c : Int)) = true := decide_eq_true (by omega)
          have d3 : decide ((c : Int) ≤ 90) = true := decide_eq_true (by omega)
          have d4 : decide (48 ≤ (c : Int)) = true := decide_eq_true (by omega)
          have d5 : decide ((c : Int) ≤ 57) = false := decide_eq_false (by omega)
          have hch : chA c = true := by
            rw [ch_same hc256]
            unfold chB
            have g : (c == 95) = false ∧ (c == 46) = false ∧ (c == 45) = false ∧ (c == 58) = false ∧ (c == 47) = false ∧ (c == 61) = false ∧ (c == 44) = false := by simp; omega
            simp only [g]
            rw [show decide (97 ≤ c) = false from decide_eq_false (by omega)]
            rw [show decide (c ≤ 122) = true from decide_eq_true (by omega)]
            rw [show decide (65 ≤ c) = true from decide_eq_true (by omega)]
            rw [show decide (c ≤ 90) = true from decide_eq_true (by omega)]
            rw [show decide (48 ≤ c) = true from decide_eq_true (by omega)]
            rw [show decide (c ≤ 57) = false from decide_eq_false (by omega)]
            rfl
          have HT := Lib.hid hch
          clear hch hiv n95 n46 n45 n58 n47 n61 n44
          clear hc256
          go_wp2_with fail
          go_roundw
          case rel =>
            refine ⟨k + 1, by omega, by go_num, fun j hj => ?_, HA.out.2⟩
            rcases Nat.lt_or_ge j k with h | h
            · exact HA.out.1 j h
            · obtain rfl : j = k := by omega
              rw [HC.out]; exact HT.out
          case measure => simp [intOf] <;> omega
        · skip
          have d0 : decide (97 ≤ (c : Int)) = false := decide_eq_false (by omega)
          have d1 : decide ((c : Int) ≤ 122) = true := decide_eq_true (by omega)
          have d2 : decide (65 ≤ (c : Int)) = true := decide_eq_true (by omega)
          have d3 : decide ((c : Int) ≤ 90) = false := decide_eq_false (by omega)
          have d4 : decide (48 ≤ (c : Int)) = true := decide_eq_true (by omega)
          have d5 : decide ((c : Int) ≤ 57) = false := decide_eq_false (by omega)
          have hch : chA c = false := by
            rw [ch_same hc256]
            unfold chB
            have g : (c == 95) = false ∧ (c == 46) = false ∧ (c == 45) = false ∧ (c == 58) = false ∧ (c == 47) = false ∧ (c == 61) = false ∧ (c == 44) = false := by simp; omega
            simp only [g]
            rw [show decide (97 ≤ c) = false from decide_eq_false (by omega)]
            rw [show decide (c ≤ 122) = true from decide_eq_true (by omega)]
            rw [show decide (65 ≤ c) = true from decide_eq_true (by omega)]
            rw [show decide (c ≤ 90) = false from decide_eq_false (by omega)]
            rw [show decide (48 ≤ c) = true from decide_eq_true (by omega)]
            rw [show decide (c ≤ 57) = false from decide_eq_false (by omega)]
            rfl
          have HT := Lib.hid (name_bad hlt (by rw [HC.out]; exact hch))
          clear hch hiv n95 n46 n45 n58 n47 n61 n44
          clear hc256
          go_wp2_with fail
          go_ret
          exact ⟨by rw [HT.out]; rfl, HA.out.2⟩
        · skip
          have d0 : decide (97 ≤ (c : Int)) = true := decide_eq_true (by omega)
          have d1 : decide ((c : Int) ≤ 122) = true := decide_eq_true (by omega)
          have d2 : decide (65 ≤ (c : Int)) = true := decide_eq_true (by omega)
          have d3 : decide ((c : Int) ≤ 90) = false := decide_eq_false (by omega)
          have d4 : decide (48 ≤ (c : Int)) = true := decide_eq_true (by omega)
          have d5 : decide ((c : Int) ≤ 57) = false := decide_eq_false (by omega)
          have hch : chA c = true := by
            rw [ch_same hc256]
            unfold chB
            have g : (c == 95) = false ∧ (c == 46) = false ∧ (c == 45) = false ∧ (c == 58) = false ∧ (c == 47) = false ∧ (c == 61) = false ∧ (c == 44) = false := by simp; omega
            simp only [g]
            rw [show decide (97 ≤ c) = true from decide_eq_true (by omega)]
            rw [show decide (c ≤ 122) = true from decide_eq_true (by omega)]
            rw [show decide (65 ≤ c) = true from decide_eq_true (by omega)]
            rw [show decide (c ≤ 90) = false from decide_eq_false (by omega)]
            rw [show decide (48 ≤ c) = true from decide_eq_true (by omega)]
            rw [show decide (c ≤ 57) = false from decide_eq_false (by omega)]
            rfl
          have HT := Lib.hid hch
          clear hch hiv n95 n46 n45 n58 n47 n61 n44
          clear hc256
          go_wp2_with fail
          go_roundw
          case rel =>
            refine ⟨k + 1, by omega, by go_num, fun j hj => ?_, HA.out.2⟩
            rcases Nat.lt_or_ge j k with h | h
            · exact HA.out.1 j h
            · obtain rfl : j = k := by omega
              rw [HC.out]; exact HT.out
          case measure => simp [intOf] <;> omega
        · skip
          have d0 : decide (97 ≤ (c : Int)) = true := decide_eq_true (by omega)
          have d1 : decide ((c : Int) ≤ 122) = false := decide_eq_false (by omega)
          have d2 : decide (65 ≤ (c : Int)) = true := decide_eq_true (by omega)
          have d3 : decide ((c : Int) ≤ 90) = false := decide_eq_false (by omega)
          have d4 : decide (48 ≤ (c : Int)) = true := decide_eq_true (by omega)
          have d5 : decide ((c : Int) ≤ 57) = false := decide_eq_false (by omega)
          have hch : chA c = false := by
            rw [ch_same hc256]
            unfold chB
            have g : (c == 95) = false ∧ (c == 46) = false ∧ (c == 45) = false ∧ (c == 58) = false ∧ (c == 47) = false ∧ (c == 61) = false ∧ (c == 44) = false := by simp; omega
            simp only [g]
            rw [show decide (97 ≤ c) = true from decide_eq_true (by omega)]
            rw [show decide (c ≤ 122) = false from decide_eq_false (by omega)]
            rw [show decide (65 ≤ c) = true from decide_eq_true (by omega)]
            rw [show decide (c ≤ 90) = false from decide_eq_false (by omega)]
            rw [show decide (48 ≤ c) = true from decide_eq_true (by omega)]
            rw [show decide (c ≤ 57) = false from decide_eq_false (by omega)]
            rfl
          have HT := Lib.hid (name_bad hlt (by rw [HC.out]; exact hch))
          clear hch hiv n95 n46 n45 n58 n47 n61 n44
          clear hc256
          go_wp2_with fail
          go_ret
          exact ⟨by rw [HT.out]; rfl, HA.out.2⟩
    · obtain rfl : k = s.size := by omega
      have hn := name_all HA.out.1
      by_cases h1 : 1 ≤ s.size
      · have d1 : decide (1 ≤ (s.size : Int)) = true := by simp; omega
        by_cases h64 : s.size ≤ 64
        · have HN := Lib.hid (show nameOk s = true by rw [hn]; simp [h1, h64])
          have d2 : decide ((s.size : Int) ≤ 64) = true := by simp; omega
          clear hn h64
          go_wp2_with fail
          go_ret
          exact ⟨by rw [HN.out]; rfl, HA.out.2⟩
        · have HN := Lib.hid (show nameOk s = false by rw [hn]; simp [h64])
          have d2 : decide ((s.size : Int) ≤ 64) = false := by simp; omega
          clear hn h64
          go_wp2_with fail
          go_ret
          exact ⟨by rw [HN.out]; rfl, HA.out.2⟩
      · have HN := Lib.hid (show nameOk s = false by rw [hn]; simp [h1])
        have d1 : decide (1 ≤ (s.size : Int)) = false := by simp; omega
        clear hn
        go_wp2_with fail
        go_ret
        exact ⟨by rw [HN.out]; rfl, HA.out.2⟩
end Go.Proofs.Ytopbbicjbjmdnaa
