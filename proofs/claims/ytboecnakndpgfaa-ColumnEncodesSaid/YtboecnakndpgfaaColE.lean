/-
  The contract of tidemillref13.Encode. (Printed by mk.py.)
-/
import Derived.Test.YtboecnakndpgfaaColC
import Derived.Test.YtboecnakndpgfaaFrmR
import Derived.Test.YtboecnakndpgfaaDeltaRE
import Derived.Test.YtboecnakndpgfaaXorRE
import Derived.WalkKit
import Derived.WalkSpells
import Derived.WalkLawsBesides
import Derived.Outline
import Derived.Deep.Cut
namespace Go.Proofs.Ytboecnakndpgfaa
open Go.RowKit
set_option linter.unusedVariables false
set_option linter.unusedSimpArgs false
theorem wpList_app3 {ops : Array Oper} {rest : List Oper} {o : Oper} {a : Act} {Q : Exit → Act → World → Prop} {w0 w : World} {x : Nat} {v : Fin 3 → Value} {l : Fin 3 → List Value} {u : Value} (h : R3 cE w0 w x v l) (c : Fin 3) (hgd : o.guard = none) (s xo : Operand)
    (ho : o.op = .call { callee := .builtin .append, args := #[s, xo], argTypes := #[cT c, cT c] }) (hs : a.eval s = v c) (hx : a.eval xo = .slice (some ⟨w.heap.size, 0, none⟩) 1 1) (hu : u.oneCell' = true) (hl : (l c).length + 1 ≤ 4097)
    (k : ∀ v' w', R3 cE w0 w' x (upd v c v') (upd l c (l c ++ [u])) → wpList Try.prog ops Q rest (a.put o.dst v') w') : wpList Try.prog ops Q (o :: rest) a (w.alloc (.cells #[u] (cE c))) := by
  refine wpList_append_sl (A := some ⟨w.heap.size, 0, none⟩) (c := 1) (m := 1) (f := fun _ => u) (D := fun k => k = w.heap.size) (base := x) (n := (l c).length) (xs := l c) (cElem c) hgd s xo ho hs hx ((h.own c).alloc _) (sl_one _ _ _) (fun _ _ => hu) (by unfold maxLen; omega) (by omega) (by have := h.size; simp; omega) ?_
  intro v' w' h2 h3 h4
  exact k v' w' ((h.alloc _).grow c h2 h3 h4)
theorem col3 {w0 w : World} {x k : Nat} {V : Fin 3 → Value} {f : Nat → Pt} {p : Pt} (hp : f k = p) (h : R3 cE w0 w x V (upd (upd (upd (colRow f k) 0 (colRow f k 0 ++ [.int .i64 p.t])) 1 (colRow f k 1 ++ [.int .u64 (IntKind.u64.wrap p.v)])) 2 (colRow f k 2 ++ [.int .i64 p.s]))) :
    R3 cE w0 w x V (colRow f (k + 1)) := by
  have e : upd (upd (upd (colRow f k) 0 (colRow f k 0 ++ [.int .i64 p.t])) 1 (colRow f k 1 ++ [.int .u64 (IntKind.u64.wrap p.v)])) 2 (colRow f k 2 ++ [.int .i64 p.s]) = colRow f (k + 1) := by
    subst hp
    funext c
    rw [colRow_succ]
    match c with
    | 0 => rfl
    | 1 => rfl
    | 2 => rfl
  rw [e] at h
  exact h
set_option maxRecDepth 100000 in
set_option maxHeartbeats 8000000 in
theorem rcencode_any (A : Option Addr) (n c : Nat) (f : Nat → Pt) (D0 : Nat → Prop) (w : World) (hsl : SlP w D0 A n f) (hn : n ≤ 9223372036854775807) :
    Calls Try.prog 5 #[.slice A n c] w (F.BytesPost w (colL f n).1 (colL f n).2) := by
  have HO := Lib.hid hsl
  clear hsl
  go_enter Try.func5, Try.ntmps5
  go_wp2_with fail
  refine (rcvalid_any _ _ _ f D0 _ HO.out hn).mono ?_
  rintro e w1 ⟨rfl, hb1⟩
  cases hv : colV f n with
  | false =>
    have HF := Lib.hid (And.intro hv (Keeps.of_below (S := fun _ => False) hb1))
    clear hv hb1
    go_wp2_with fail
    go_ret2
    exact col_bad HF.out.1 HF.out.2
  | true =>
    obtain ⟨-, hn0, hn4⟩ := colV_spec hv
    have HV := Lib.hid hv
    have HS := Lib.hid (R3.start cE (Keeps.of_below (S := fun _ => False) hb1))
    clear hv hb1
    go_wp2_with fail
    go_loopw [4, 5, 6, 7] (fun v4 v5 v6 i wr => ∃ (k : Nat) (v : Fin 3 → Value), k ≤ n ∧ i = .int .i64 k ∧ v4 = v 0 ∧ v5 = v 2 ∧ v6 = v 1 ∧ R3 cE w wr w1.heap.size v (colRow f k)) (fun _ _ _ i _ => n - (intOf i).toNat)
    case atStart => exact ⟨0, _, Nat.zero_le _, rfl, rfl, rfl, rfl, HS.out⟩
    case round =>
      obtain ⟨k, v, hk, rfl, rfl, rfl, rfl, hR⟩ := hrel
      by_cases hlt : k < n
      · obtain ⟨b, off, hA, -, hc⟩ := HO.out (by omega)
        subst hA
        have hc' := hc k hlt
        clear hc
        generalize hp : f k = p at hc'
        have HC := Lib.hid hc'
        clear hc'
        have hP := hp
        have HP := Lib.hid hP
        clear hp hP
        have HX := Lib.hid HO.out
        have HB := Lib.hid (show b < w.heap.size from World.block_lt_of_cell? w _ HC.out.1)
        have HCk := Lib.hid (show ∀ w2, Keeps (fun _ => False) w w2 → w2.cell? ⟨b, off + k * 3, none⟩ = some (.int .i64 p.t) ∧ w2.cell? ⟨b, off + k * 3 + 1, none⟩ = some (.int .i64 p.v) ∧ w2.cell? ⟨b, off + k * 3 + 2, none⟩ = some (.int .i64 p.s) from fun w2 hk2 =>
          ⟨(World.cell?_of_block (w := w) (a := ⟨b, off + k * 3, none⟩) (hk2.block b HB.out (fun h => h))).trans HC.out.1, (World.cell?_of_block (w := w) (a := ⟨b, off + k * 3 + 1, none⟩) (hk2.block b HB.out (fun h => h))).trans HC.out.2.1,
            (World.cell?_of_block (w := w) (a := ⟨b, off + k * 3 + 2, none⟩) (hk2.block b HB.out (fun h => h))).trans HC.out.2.2⟩)
        obtain ⟨k0, k1, k2⟩ := HCk.out _ hR.keep
        have HR := Lib.hid hR
        clear hR
        go_wp2_with (at_builtin; refine wpList_app3 (u := .int .i64 p.t) HR.out 0 rfl (.tmp 26) (.tmp 32) rfl rfl rfl rfl (by rw [colRow_len]; omega) ?_)
        intro a' w2 h2
        obtain ⟨k0, k1, k2⟩ := HCk.out _ h2.keep
        have HR := Lib.hid h2
        clear h2
        go_wp2_with (at_builtin; refine wpList_app3 (u := .int .u64 (IntKind.u64.wrap p.v)) HR.out 1 rfl (.tmp 34) (.tmp 41) rfl rfl rfl rfl (by show (colRow f k 1).length + 1 ≤ _; rw [colRow_len]; omega) ?_)
        intro b' w3 h3
        obtain ⟨k0, k1, k2⟩ := HCk.out _ h3.keep
        have HR := Lib.hid h3
        clear h3
        go_wp2_with (at_builtin; refine wpList_app3 (u := .int .i64 p.s) HR.out 2 rfl (.tmp 43) (.tmp 49) rfl rfl rfl rfl (by show (colRow f k 2).length + 1 ≤ _; rw [colRow_len]; omega) ?_)
        intro c' w4 h4
        have HR := Lib.hid (col3 HP.out h4)
        clear h4
        go_wp2_with fail
        go_roundw
        case rel => exact ⟨k + 1, _, by omega, by go_num, rfl, rfl, rfl, HR.out⟩
        case measure => simp [intOf]; omega
      · obtain rfl : k = n := by omega
        obtain ⟨A0, c0, ev0, hc0, hs0⟩ := r3_sl hR 0
        obtain ⟨A1, c1, ev1, hc1, hs1⟩ := r3_sl hR 1
        obtain ⟨A2, c2, ev2, hc2, hs2⟩ := r3_sl hR 2
        rw [ev0, ev1, ev2]
        have HK := Lib.hid hR.keep
        have H1 := Lib.hid (hs1 _ (fun j hj => col_v hj))
        have H2 := Lib.hid (hs2 _ (fun j hj => col_s hj))
        have H0 := Lib.hid (hs0 _ (fun j hj => col_t hj))
        clear hs0 hs1 hs2 ev0 ev1 ev2 hR HS
        go_wp2_with fail
        refine (D.rencode_any _ _ _ _ _ (tOf f k) H0.out (tOf_range HV.out) hn4).mono ?_
        rintro e w2 ⟨B0, d0, rfl, hr0, hk0⟩
        have P0 := Lib.hid (show PartIs wr w2 B0 d0 (partA f k 0) from ⟨hr0⟩)
        have H1 := Lib.hid (H1.out.keeps hk0 (fun _ _ h => h))
        have H2 := Lib.hid (H2.out.keeps hk0 (fun _ _ h => h))
        have HK := Lib.hid (HK.out.trans' hk0)
        rw [show (pack (D.encTo (tOf f k) k)) = partA f k 0 from rfl]
        clear hr0 hk0 H0
        go_wp2_with fail
        refine (X.rxencode_any _ _ _ _ _ (vOf f k) H1.out (vOf_lt f k) hn4).mono ?_
        rintro e w3 ⟨B1, d1, rfl, hr1, hk1⟩
        have P0 := Lib.hid (P0.out.keeps hk1)
        have P1 := Lib.hid (show PartIs w2 w3 B1 d1 (partA f k 1) from ⟨hr1⟩)
        have H2 := Lib.hid (H2.out.keeps hk1 (fun _ _ h => h))
        have HK := Lib.hid (HK.out.trans' hk1)
        rw [show (pack (X.xencTo (vOf f k) k)) = partA f k 1 from rfl]
        clear hr1 hk1 H1
        go_wp2_with fail
        refine (D.rencode_any _ _ _ _ _ (sOf f k) H2.out (sOf_range HV.out) hn4).mono ?_
        rintro e w4 ⟨B2, d2, rfl, hr2, hk2⟩
        have P0 := Lib.hid (P0.out.keeps hk2)
        have P1 := Lib.hid (P1.out.keeps hk2)
        have P2 := Lib.hid (show PartIs w3 w4 B2 d2 (partA f k 2) from ⟨hr2⟩)
        have HK := Lib.hid (HK.out.trans' hk2)
        rw [show (pack (D.encTo (sOf f k) k)) = partA f k 2 from rfl]
        clear hr2 hk2 H2
        go_wp2_with fail
        refine (V.rvput_any _ none 0 0 [] _ rfl (Sl.nil _ _ _ _) (by omega) ?_ ?_).mono ?_
        · first | omega | (rw [IntKind.wrap_u64]; omega)
        · first | omega | (rw [IntKind.wrap_u64]; omega)
        rintro e w5 ⟨v5, rfl, hi5, hb5⟩
        have hk5 := Keeps.of_below (S := fun _ => False) hb5
        have hi5' : InIs w4 w5 v5 (colUp f k 0) := by
          have e : ([] ++ V.vput ((k : Int)).toNat) = colUp f k 0 := by simp; rfl
          unfold InIs
          first | (rw [← e]; exact hi5) | (rw [IntKind.wrap_u64] at hi5; rw [← e]; have e2 : ((k : Int) % 18446744073709551616).toNat = ((k : Int)).toNat := by omega
                                           rw [e2] at hi5; exact hi5)
        have P0 := Lib.hid (P0.out.keeps hk5)
        have P1 := Lib.hid (P1.out.keeps hk5)
        have P2 := Lib.hid (P2.out.keeps hk5)
        have HK := Lib.hid (HK.out.trans' hk5)
        obtain ⟨A5, c5, rfl, hc5, hs5⟩ := hi5'.form
        have HI := Lib.hid (And.intro hs5 hk5.size)
        clear hi5 hi5' hb5 hk5 hs5
        have l0 : (partA f k 0).length ≤ 40000 := partA_len f k 0 hn4
        have l1 : (partA f k 1).length ≤ 40000 := partA_len f k 1 hn4
        have l2 : (partA f k 2).length ≤ 40000 := partA_len f k 2 hn4
        have HL := Lib.hid (And.intro (And.intro l0 (And.intro l1 l2)) (And.intro (colUp_len f k hn4 0) (And.intro (colUp_len f k hn4 1) (And.intro (colUp_len f k hn4 2) (colUp_len f k hn4 3)))))
        clear l0 l1 l2
        have hcv := conv_sl (P := Try.prog) (c := d0) 23 5 9 Try.underlying23 Try.underlying5 Try.underlying9 (bs := partA f k 0) rfl P0.out.sl
        go_wp2_with fail
        clear hcv
        refine (V.rputText_any _ _ _ _ (colUp f k 0) _ rfl HI.out.1 ?_ ?_).mono ?_
        · have := HL.out.2; omega
        · rw [strB_size]; have := HL.out.1; omega
        rintro e w6 ⟨v6, rfl, hi6, hb6⟩
        have hk6 := Keeps.of_below (S := fun _ => False) hb6
        rw [col_up f k 0] at hi6
        have hi6' : InIs w4 w6 v6 (colUp f k (0 + 1)) := own_base hi6 (by have := HI.out.2; omega)
        obtain ⟨A6, c6, rfl, hc6, hs6⟩ := hi6'.form
        have HI := Lib.hid (And.intro hs6 (Nat.le_trans HI.out.2 hk6.size))
        have P0 := Lib.hid (P0.out.keeps hk6)
        have P1 := Lib.hid (P1.out.keeps hk6)
        have P2 := Lib.hid (P2.out.keeps hk6)
        have HK := Lib.hid (HK.out.trans' hk6)
        clear hi6 hi6' hb6 hk6 hs6
        have hcv := conv_sl (P := Try.prog) (c := d1) 23 5 9 Try.underlying23 Try.underlying5 Try.underlying9 (bs := partA f k 1) rfl P1.out.sl
        go_wp2_with fail
        clear hcv
        refine (V.rputText_any _ _ _ _ (colUp f k 1) _ rfl HI.out.1 ?_ ?_).mono ?_
        · have := HL.out.2; omega
        · rw [strB_size]; have := HL.out.1; omega
        rintro e w7 ⟨v6, rfl, hi6, hb6⟩
        have hk6 := Keeps.of_below (S := fun _ => False) hb6
        rw [col_up f k 1] at hi6
        have hi6' : InIs w4 w7 v6 (colUp f k (1 + 1)) := own_base hi6 (by have := HI.out.2; omega)
        obtain ⟨A6, c6, rfl, hc6, hs6⟩ := hi6'.form
        have HI := Lib.hid (And.intro hs6 (Nat.le_trans HI.out.2 hk6.size))
        have P0 := Lib.hid (P0.out.keeps hk6)
        have P1 := Lib.hid (P1.out.keeps hk6)
        have P2 := Lib.hid (P2.out.keeps hk6)
        have HK := Lib.hid (HK.out.trans' hk6)
        clear hi6 hi6' hb6 hk6 hs6
        have hcv := conv_sl (P := Try.prog) (c := d2) 23 5 9 Try.underlying23 Try.underlying5 Try.underlying9 (bs := partA f k 2) rfl P2.out.sl
        go_wp2_with fail
        clear hcv
        refine (V.rputText_any _ _ _ _ (colUp f k 2) _ rfl HI.out.1 ?_ ?_).mono ?_
        · have := HL.out.2; omega
        · rw [strB_size]; have := HL.out.1; omega
        rintro e w8 ⟨v6, rfl, hi6, hb6⟩
        have hk6 := Keeps.of_below (S := fun _ => False) hb6
        rw [col_up f k 2] at hi6
        have hi6' : InIs w4 w8 v6 (colUp f k (2 + 1)) := own_base hi6 (by have := HI.out.2; omega)
        obtain ⟨A6, c6, rfl, hc6, hs6⟩ := hi6'.form
        have HI := Lib.hid (And.intro hs6 (Nat.le_trans HI.out.2 hk6.size))
        have P0 := Lib.hid (P0.out.keeps hk6)
        have P1 := Lib.hid (P1.out.keeps hk6)
        have P2 := Lib.hid (P2.out.keeps hk6)
        have HK := Lib.hid (HK.out.trans' hk6)
        clear hi6 hi6' hb6 hk6 hs6
        go_wp2_with fail
        refine (F.rseal_ok _ 3 _ _ _ _ (colUp f k 3) rfl HI.out.1 (colUp_byte f k 3) (by omega) (by have := HL.out.2; omega)).mono ?_
        intro e w9 hp
        obtain ⟨A9, c9, rfl, ho9, hk9⟩ := hp
        have HP := Lib.hid (And.intro ho9 hk9)
        clear ho9 hk9
        go_wp2_with fail
        go_ret2
        exact col_good HV.out HK.out ⟨A9, c9, rfl, HP.out.1, HP.out.2⟩
end Go.Proofs.Ytboecnakndpgfaa
