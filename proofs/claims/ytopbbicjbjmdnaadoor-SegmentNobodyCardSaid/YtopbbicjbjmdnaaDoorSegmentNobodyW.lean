/-
  The walk of the law SegmentNobody. (Printed by mk.py.)
-/
import Derived.Test.YtopbbicjbjmdnaaDoorOwn
import Derived.Test.YtopbbicjbjmdnaaDoorChecked
import Derived.OpenShut
import Derived.WideShapes
import Derived.RowKit
import Derived.Deep.DeepCutAuto
namespace Go.Proofs.YtopbbicjbjmdnaaDoor
open Go.RowKit Go.WideShapes
set_option maxRecDepth 100000
set_option linter.unusedVariables false
set_option linter.unusedSimpArgs false
/-- The cell of the one variable that the row lists. -/
def HErr (w : World) : Prop := w.cell? ⟨0, 0, none⟩ = some (.iface 129 (.agg #[.pointer (some ⟨1, 89, none⟩)]))
theorem array2 {α : Type} {cs : Array α} (h : cs.size = 2) : ∃ c0 c1, cs = #[c0, c1] := by
  obtain ⟨l⟩ := cs
  match l, h with
  | [c0, c1], _ => exact ⟨c0, c1, rfl⟩
theorem open_pair {H : Type} {enc : TypeId × Value → H} {w : World} {r : Reach} {b0 b : Nat} {spare : Nat → Bool} {held : Bool} {v : Value} {d : DataW H} {p : List MemPlace}
    (hv : Value.okWide Tryd.prog w r b0 22 v) (h : DataW.Trod enc Tryd.prog w b spare held 22 v d p) : ∃ s t : Int, v = .agg #[.int .i64 s, .int .i64 t] := by
  simp only [Value.okWide, Tryd.underlying22] at hv
  obtain ⟨cs, rfl, hsz, _⟩ := hv
  rw [show Tryd.prog.cellsOf 22 = 2 by kernel_rfl] at hsz
  obtain ⟨c0, c1, rfl⟩ := array2 hsz
  obtain ⟨fuel, hf⟩ := h
  obtain ⟨xs, m, _, ex, _, hl, hel⟩ := DataW.trod_array Tryd.underlying22 hf
  have c5 : Tryd.prog.cellsOf 3 = 1 := by kernel_rfl
  have h0 := hel 0 (by omega)
  have h1 := hel 1 (by omega)
  rw [c5, List.getElem?_eq_getElem (by omega)] at h0 h1
  obtain ⟨s, e0, _, _⟩ := DataW.trod_int Tryd.underlying3 h0
  obtain ⟨t, e1, _, _⟩ := DataW.trod_int Tryd.underlying3 h1
  simp [Value.cells] at e0 e1
  subst e0 e1
  exact ⟨s, t, rfl⟩
/-- A segment that no call made: none, or an empty one. -/
def NonePtr (w : World) (v : Value) : Prop := v = .pointer none ∨ ∃ y, v = .pointer (some ⟨y, 0, none⟩) ∧ w.cell? ⟨y, 2, none⟩ = some (.map none)
def SaysPost (r : Value) (w : World) (e : Ending) (w' : World) : Prop := e = .returned r ∧ Below w.heap.size w w'
theorem ptr_none (w : World) : (binOp .eql 23 (.pointer none) (.pointer none)).run Tryd.prog w = .ok (.bool true) w := by kernel_rfl
theorem ptr_some (a : Addr) (w : World) : (binOp .eql 23 (.pointer (some a)) (.pointer none)).run Tryd.prog w = .ok (.bool false) w := by kernel_rfl
theorem not_true (w : World) : (Op.unary .not (.bool true)).run Tryd.prog w = .ok (.bool false) w := by kernel_rfl
theorem seg_zero (w : World) : (Instr.build 28 #[]).run Tryd.prog w = .ok (.agg #[.slice none 0 0, .slice none 0 0, .map none]) w := by kernel_rfl
theorem map_none (w : World) : (binOp .eql 26 (.map none) (.map none)).run Tryd.prog w = .ok (.bool true) w := by kernel_rfl
set_option maxRecDepth 100000 in
set_option maxHeartbeats 400000 in
theorem none_any (w : World) (v : Value) (h : NonePtr w v) : Calls Tryd.prog 8 #[v] w (SaysPost (.bool true) w) := by
  have q1 := ptr_none
  have q2 := fun y => ptr_some ⟨y, 0, none⟩
  have q3 := map_none
  rcases h with rfl | ⟨y, rfl, hc⟩
  · go_enter Tryd.func8, Tryd.ntmps8
    go_wp2_with fail
    go_ret
    exact ⟨rfl, Below.refl _ _⟩
  · go_enter Tryd.func8, Tryd.ntmps8
    go_wp2_with fail
    go_ret
    exact ⟨rfl, Below.refl _ _⟩
set_option maxRecDepth 100000 in
set_option maxHeartbeats 400000 in
theorem sgPoints_any (w : World) (v : Value) (s : ByteArray) (p q : Int) (h : NonePtr w v) : Calls Tryd.prog 4 #[v, .string s, .int .i64 p, .int .i64 q] w (SaysPost (.tuple #[.slice none 0 0, .int .i64 1]) w) := by
  have HN := Lib.hid h
  have q1 := not_true
  clear h
  go_enter Tryd.func4, Tryd.ntmps4
  go_wp2_with fail
  refine (none_any _ v HN.out).mono ?_
  rintro e w1 ⟨rfl, hb⟩
  have HB := Lib.hid hb
  clear hb
  go_wp2_with fail
  go_ret2
  exact ⟨rfl, HB.out⟩
set_option maxRecDepth 100000 in
set_option maxHeartbeats 400000 in
theorem sgSpan_any (w : World) (v : Value)  (h : NonePtr w v) : Calls Tryd.prog 5 #[v] w (SaysPost (.tuple #[.int .i64 0, .int .i64 0, .bool false]) w) := by
  have HN := Lib.hid h
  have q1 := not_true
  clear h
  go_enter Tryd.func5, Tryd.ntmps5
  go_wp2_with fail
  refine (none_any _ v HN.out).mono ?_
  rintro e w1 ⟨rfl, hb⟩
  have HB := Lib.hid hb
  clear hb
  go_wp2_with fail
  go_ret3
  exact ⟨rfl, HB.out⟩
set_option maxRecDepth 100000 in
set_option maxHeartbeats 400000 in
theorem sgNames_any (w : World) (v : Value)  (h : NonePtr w v) : Calls Tryd.prog 6 #[v] w (SaysPost (.slice none 0 0) w) := by
  have HN := Lib.hid h
  have q1 := not_true
  clear h
  go_enter Tryd.func6, Tryd.ntmps6
  go_wp2_with fail
  refine (none_any _ v HN.out).mono ?_
  rintro e w1 ⟨rfl, hb⟩
  have HB := Lib.hid hb
  clear hb
  go_wp2_with fail
  go_ret
  exact ⟨rfl, HB.out⟩
set_option maxRecDepth 100000 in
set_option maxHeartbeats 400000 in
theorem sgCount_any (w : World) (v : Value)  (h : NonePtr w v) : Calls Tryd.prog 7 #[v] w (SaysPost (.int .i64 0) w) := by
  have HN := Lib.hid h
  have q1 := not_true
  clear h
  go_enter Tryd.func7, Tryd.ntmps7
  go_wp2_with fail
  refine (none_any _ v HN.out).mono ?_
  rintro e w1 ⟨rfl, hb⟩
  have HB := Lib.hid hb
  clear hb
  go_wp2_with fail
  go_ret
  exact ⟨rfl, HB.out⟩
set_option maxRecDepth 100000 in
set_option maxHeartbeats 4000000 in
theorem segmentNobody_walk (s : ByteArray) (p q : Int) (w : World) (ws : s.size ≤ maxLen) (hv : HErr w) :
    Calls Tryd.prog 3 #[.string s, .agg #[.int .i64 p, .int .i64 q]] w fun e w' => e = .returned (.bool true) ∧ Below w.heap.size w w' := by
  obtain ⟨x, hx⟩ : ∃ x, x = w.heap.size := ⟨_, rfl⟩
  have o0 := Own.own3 w hx 22 #[.int .i64 p, .int .i64 q] 28 #[.slice none 0 0, .slice none 0 0, .map none] 23 #[.pointer none, .pointer (some ⟨x + 1, 0, none⟩)]
  have HO := Lib.hid (And.intro hx o0)
  have q1 := seg_zero
  clear hx o0 hv ws
  go_enter Tryd.func3, Tryd.ntmps3
  go_wp2_with fail
  rw [← HO.out.1]
  go_loopw [16] (fun i wr => ∃ (k : Nat), k ≤ 2 ∧ i = .int .i64 k ∧ Own w [(x, 22, #[.int .i64 p, .int .i64 q]), (x + 1, 28, #[.slice none 0 0, .slice none 0 0, .map none]), (x + 1 + 1, 23, #[.pointer none, .pointer (some ⟨x + 1, 0, none⟩)])] wr) (fun i _ => 2 - (intOf i).toNat)
  case atStart => exact ⟨0, by omega, rfl, HO.out.2⟩
  case round =>
    obtain ⟨k, hk, rfl, hS⟩ := hrel
    have np0 : ∀ {wq : World} (HS : (Own w [(x, 22, #[.int .i64 p, .int .i64 q]), (x + 1, 28, #[.slice none 0 0, .slice none 0 0, .map none]), (x + 1 + 1, 23, #[.pointer none, .pointer (some ⟨x + 1, 0, none⟩)])] wq)), NonePtr wq (.pointer none) := fun _ => .inl rfl
    have np1 : ∀ {wq : World} (HS : (Own w [(x, 22, #[.int .i64 p, .int .i64 q]), (x + 1, 28, #[.slice none 0 0, .slice none 0 0, .map none]), (x + 1 + 1, 23, #[.pointer none, .pointer (some ⟨x + 1, 0, none⟩)])] wq)), NonePtr wq (.pointer (some ⟨x + 1, 0, none⟩)) := fun HS => .inr ⟨_, rfl, HS.cell 1 2 rfl rfl⟩
    have HP := Lib.hid (And.intro @np0 @np1)
    clear np0 np1
    rcases (show k = 0 ∨ k = 1 ∨ k = 2 by omega) with rfl | rfl | rfl
    · skip
      have z0_0 := hS.cell 0 0 rfl rfl; have z0_1 := hS.cell 0 1 rfl rfl; have z1_0 := hS.cell 1 0 rfl rfl; have z1_1 := hS.cell 1 1 rfl rfl; have z1_2 := hS.cell 1 2 rfl rfl; have z2_0 := hS.cell 2 0 rfl rfl; have z2_1 := hS.cell 2 1 rfl rfl
      have HS := Lib.hid hS
      clear hS
      go_wp2_with fail
      refine (sgPoints_any _ _ s p q (HP.out.1 HS.out)).mono ?_
      rintro e w1 ⟨rfl, hb⟩
      have hS := HS.out.call hb
      clear z0_0 z0_1 z1_0 z1_1 z1_2 z2_0 z2_1 HS hb
      have HS := Lib.hid hS
      clear hS
      go_wp2_with fail
      refine (sgSpan_any _ _ (HP.out.1 HS.out)).mono ?_
      rintro e w2 ⟨rfl, hb⟩
      have hS := HS.out.call hb
      clear HS hb
      have HS := Lib.hid hS
      clear hS
      go_wp2_with fail
      refine (sgNames_any _ _ (HP.out.1 HS.out)).mono ?_
      rintro e w3 ⟨rfl, hb⟩
      have hS := HS.out.call hb
      clear HS hb
      have HS := Lib.hid hS
      clear hS
      go_wp2_with fail
      refine (sgCount_any _ _ (HP.out.1 HS.out)).mono ?_
      rintro e w4 ⟨rfl, hb⟩
      have hS := HS.out.call hb
      clear HS hb
      have HS := Lib.hid hS
      clear hS
      go_wp2_with fail
      go_roundw
      case rel => exact ⟨0 + 1, by omega, by go_num, HS.out⟩
      case measure => simp [intOf]
    · skip
      have z0_0 := hS.cell 0 0 rfl rfl; have z0_1 := hS.cell 0 1 rfl rfl; have z1_0 := hS.cell 1 0 rfl rfl; have z1_1 := hS.cell 1 1 rfl rfl; have z1_2 := hS.cell 1 2 rfl rfl; have z2_0 := hS.cell 2 0 rfl rfl; have z2_1 := hS.cell 2 1 rfl rfl
      have HS := Lib.hid hS
      clear hS
      go_wp2_with fail
      refine (sgPoints_any _ _ s p q (HP.out.2 HS.out)).mono ?_
      rintro e w1 ⟨rfl, hb⟩
      have hS := HS.out.call hb
      clear z0_0 z0_1 z1_0 z1_1 z1_2 z2_0 z2_1 HS hb
      have HS := Lib.hid hS
      clear hS
      go_wp2_with fail
      refine (sgSpan_any _ _ (HP.out.2 HS.out)).mono ?_
      rintro e w2 ⟨rfl, hb⟩
      have hS := HS.out.call hb
      clear HS hb
      have HS := Lib.hid hS
      clear hS
      go_wp2_with fail
      refine (sgNames_any _ _ (HP.out.2 HS.out)).mono ?_
      rintro e w3 ⟨rfl, hb⟩
      have hS := HS.out.call hb
      clear HS hb
      have HS := Lib.hid hS
      clear hS
      go_wp2_with fail
      refine (sgCount_any _ _ (HP.out.2 HS.out)).mono ?_
      rintro e w4 ⟨rfl, hb⟩
      have hS := HS.out.call hb
      clear HS hb
      have HS := Lib.hid hS
      clear hS
      go_wp2_with fail
      go_roundw
      case rel => exact ⟨1 + 1, by omega, by go_num, HS.out⟩
      case measure => simp [intOf]
    · have HF := Lib.hid hS.bel
      clear hS
      go_wp2_with fail
      go_ret
      exact ⟨rfl, HF.out⟩
end Go.Proofs.YtopbbicjbjmdnaaDoor
