/-
  The walk of the law ColumnEncodes. (Printed by mk.py.)
-/
import Derived.Test.YtboecnakndpgfaaColD
import Derived.Test.YtboecnakndpgfaaColE
import Derived.Test.YtboecnakndpgfaaPoints
import Derived.Deep.DeepCutAuto
namespace Go.Proofs.Ytboecnakndpgfaa
open Go.RowKit
set_option linter.unusedVariables false
set_option linter.unusedSimpArgs false
theorem five_len : 20 < ((colL (fun _ => ⟨5, 0, 0⟩) 1).1.length) ∧ (colL (fun _ => ⟨5, 0, 0⟩) 1).2 = 0 := by
  have hv : colV (fun _ => (⟨5, 0, 0⟩ : Pt)) 1 = true := by unfold colV colAll colAll colOk colT; decide
  unfold colL
  rw [if_pos hv]
  have h0 : ∀ f : Nat → Pt, ∀ j, (partA f 1 j).length = 8 := fun f j => by
    match j with
    | 0 => show (pack (bitsTo _ 64 64)).length = 8; rw [pack_length, bitsTo_length]
    | 1 => show (pack (bitsTo _ 64 64)).length = 8; rw [pack_length, bitsTo_length]
    | j + 2 => show (pack (bitsTo _ 64 64)).length = 8; rw [pack_length, bitsTo_length]
  refine ⟨?_, rfl⟩
  show 20 < (F.sealL 3 (colUp (fun _ => (⟨5, 0, 0⟩ : Pt)) 1 3)).length
  rw [F.sealL_length]
  have e : (colUp (fun _ => (⟨5, 0, 0⟩ : Pt)) 1 3).length = (colUp (fun _ => (⟨5, 0, 0⟩ : Pt)) 1 2).length + (V.vput (partA (fun _ => (⟨5, 0, 0⟩ : Pt)) 1 2).length).length + 8 := by
    show (colUp _ 1 2 ++ V.vput _ ++ partA _ 1 2).length = _
    rw [List.length_append, List.length_append, h0]
  have e2 : (colUp (fun _ => (⟨5, 0, 0⟩ : Pt)) 1 2).length = (colUp (fun _ => (⟨5, 0, 0⟩ : Pt)) 1 1).length + (V.vput (partA (fun _ => (⟨5, 0, 0⟩ : Pt)) 1 1).length).length + 8 := by
    show (colUp _ 1 1 ++ V.vput _ ++ partA _ 1 1).length = _
    rw [List.length_append, List.length_append, h0]
  omega
theorem slp_lit (w : World) (t : TypeId) (p : Pt) : SlP (w.alloc (.cells #[.int .i64 p.t, .int .i64 p.v, .int .i64 p.s] t)) (fun _ => True) (some ⟨w.heap.size, 0, none⟩) 1 (fun _ => p) := fun _ => by
  have h := Blk.fresh w t #[.int .i64 p.t, .int .i64 p.v, .int .i64 p.s]
  refine ⟨w.heap.size, 0, rfl, trivial, fun j hj => ?_⟩
  obtain rfl : j = 0 := by omega
  exact ⟨h.cell 0, h.cell 1, h.cell 2⟩
set_option maxRecDepth 100000 in
set_option maxHeartbeats 8000000 in
theorem columnEncodes_walk (a0 : Option Addr) (len0 cap0 : Nat) (f0 : Nat → Pt) (w : World) (w0 : IsPoints w a0 len0 cap0 f0) :
    Calls Try.prog 3 #[.slice a0 len0 cap0] w fun e w' => e = .returned (.bool true) ∧ Below w.heap.size w w' := by
  obtain ⟨n, hn⟩ : ∃ n, n = min len0 200 := ⟨_, rfl⟩
  obtain ⟨g, hg, hsl⟩ := w0.cut n (by omega)
  have l1 := w0.le
  have l2 := w0.cap_le
  unfold maxLen at l2
  clear w0
  have HF := Lib.hid (And.intro hn (And.intro hg hsl))
  have hn3 : n ≤ 200 := by omega
  have hn4 : n ≤ cap0 := by omega
  clear hn hg hsl
  go_enter Try.func3, Try.ntmps3
  go_upto_if 11 with (fail)
  go_cut [0] (fun s0 wx => s0 = .slice a0 n cap0 ∧ w = wx)
  case first =>
    by_cases h : 200 < len0
    · obtain ⟨b, off, ha, -, -⟩ := HF.out.2.2 (by have := HF.out.1; omega)
      subst ha
      go_wp2_with fail
      go_meet
      have : n = 200 := by have := HF.out.1; omega
      subst this
      exact ⟨rfl, rfl⟩
    · go_wp2_with fail
      go_meet
      have : n = len0 := by have := HF.out.1; omega
      subst this
      exact ⟨rfl, rfl⟩
  case rest =>
    obtain ⟨rfl, rfl⟩ := hcut
    clear l1
    go_wp2_with fail
    refine (cencode_any _ _ _ g _ _ HF.out.2.2 (by omega)).mono ?_
    rintro e w1 ⟨A1, c1, rfl, ho1, hk1⟩
    generalize hL : (colL g n).1 = L at ho1 ⊢
    generalize hE : (colL g n).2 = er
    have HL := Lib.hid (And.intro hL hE)
    have H1 := Lib.hid (And.intro ho1 hk1)
    clear hL hE ho1 hk1
    go_wp2_with fail
    refine (rcencode_any _ _ _ g _ _ (HF.out.2.2.keeps H1.out.2) (by omega)).mono ?_
    rw [HL.out.1, HL.out.2]
    rintro e w2 ⟨A2, c2, rfl, ho2, hk2⟩
    have H2 := Lib.hid (And.intro (own_keeps H1.out.1 hk2 (fun _ _ h => h)) (And.intro ho2 (H1.out.2.trans' hk2)))
    clear ho2 hk2 H1
    go_wp2_with fail
    refine (cencode_any _ _ _ (fun _ => ⟨5, 0, 0⟩) _ _ (slp_lit _ _ ⟨5, 0, 0⟩) (by omega)).mono ?_
    obtain ⟨f1, f2⟩ := five_len
    rw [f2]
    clear f2
    generalize (colL (fun _ => (⟨5, 0, 0⟩ : Pt)) 1).1 = M at f1 ⊢
    rintro e w3 ⟨A3, c3, rfl, ho3, hk3⟩
    have hk3' := ((Keeps.refl (fun _ => False) w2).alloc _).trans' hk3
    have H3 := Lib.hid (And.intro (own_keeps H2.out.1 hk3' (fun _ _ h => h)) (And.intro (own_keeps H2.out.2.1 hk3' (fun _ _ h => h)) (H2.out.2.2.trans' hk3')))
    clear ho3 hk3 hk3' H2
    have hcx := conv_sl (P := Try.prog) (c := c1) 23 5 9 Try.underlying23 Try.underlying5 Try.underlying9 (bs := L) rfl (V.ow_sl H3.out.1)
    have hcy := conv_sl (P := Try.prog) (c := c2) 23 5 9 Try.underlying23 Try.underlying5 Try.underlying9 (bs := L) rfl (V.ow_sl H3.out.2.1)
    have d20 : decide ((20 : Int) < (M.length : Int)) = true := by simp; omega
    go_wp2_with fail
    refine (cvalid_any _ _ _ g _ _ (HF.out.2.2.keeps H3.out.2.2) (by omega)).mono ?_
    rintro e w4 ⟨rfl, hb4⟩
    have H4 := Lib.hid (H3.out.2.2.trans' (Keeps.of_below (S := fun _ => False) hb4))
    clear hb4 hcx hcy
    go_wp2_with fail
    refine (rcvalid_any _ _ _ g _ _ (HF.out.2.2.keeps H4.out) (by omega)).mono ?_
    rintro e w5 ⟨rfl, hb5⟩
    have H5 := Lib.hid (H4.out.trans' (Keeps.of_below (S := fun _ => False) hb5))
    clear hb5
    go_wp2_with fail
    go_ret
    exact ⟨rfl, H5.out.to_below⟩
end Go.Proofs.Ytboecnakndpgfaa
