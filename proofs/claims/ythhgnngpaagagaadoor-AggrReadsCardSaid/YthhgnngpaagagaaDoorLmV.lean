/-
  An aggregate that came in as an argument: its eleven cells.
-/
import Derived.Test.YthhgnngpaagagaaDoorArgs
import Derived.Test.YthhgnngpaagagaaDoorRows
import Derived.Test.YthhgnngpaagagaaDoorAgE
import Derived.Deep.Slices
import Derived.Deep.Fields
import Derived.ChangeSame
namespace Go.Proofs.YthhgnngpaagagaaDoor
open Go.RowKit Go.ChangeShapes Go.WideShapes Go.Deep
set_option maxRecDepth 100000
theorem wf_u64 {z : Int} (h : (Lit.int .u64 z).wf = true) : 0 ≤ z ∧ z < 18446744073709551616 := by
  simp [Lit.wf, IntKind.min, IntKind.max, IntKind.signed, IntKind.bits] at h
  omega
theorem array11 {α : Type} {cs : Array α} (h : cs.size = 11) : ∃ c0 c1 c2 c3 c4 c5 c6 c7 c8 c9 c10, cs = #[c0, c1, c2, c3, c4, c5, c6, c7, c8, c9, c10] := by
  obtain ⟨l⟩ := cs
  match l, h with
  | [c0, c1, c2, c3, c4, c5, c6, c7, c8, c9, c10], _ => exact ⟨c0, c1, c2, c3, c4, c5, c6, c7, c8, c9, c10, rfl⟩
theorem read_point {H : Type} {enc : TypeId × Value → H} {w : World} {b : Nat} {spare : Nat → Bool} {held : Bool} {fuel : Nat} {c0 c1 c2 : Value} {y : DataW H × List MemPlace}
    (h : DataW.trod enc Tryd.prog w b spare held fuel 26 [c0, c1, c2] = some y) : ∃ p : Pt, PtOk p ∧ c0 = .int .i64 p.t ∧ c1 = .int .i64 p.v ∧ c2 = .int .i64 p.s := by
  obtain ⟨ys, n', hn', hy, hlen, hyl, hf⟩ := DataW.trod_struct Tryd.underlying26 h
  match ys, hyl with
  | [y0, y1, y2], _ =>
    have hC : Tryd.prog.cellsOf 3 = 1 := by kernel_rfl
    have g0 := hf 0 _ rfl
    have g1 := hf 1 _ rfl
    have g2 := hf 2 _ rfl
    simp [hC] at g0
    simp [hC] at g1
    simp [hC] at g2
    obtain ⟨t, e0, -, w0⟩ := DataW.trod_int Tryd.underlying3 g0
    obtain ⟨v, e1, -, w1⟩ := DataW.trod_int Tryd.underlying3 g1
    obtain ⟨s, e2, -, w2⟩ := DataW.trod_int Tryd.underlying3 g2
    simp at e0 e1 e2
    subst e0 e1 e2
    exact ⟨⟨t, v, s⟩, ⟨wf_i64 w0, wf_i64 w1, wf_i64 w2⟩, rfl, rfl, rfl⟩
theorem read_sum {H : Type} {enc : TypeId × Value → H} {w : World} {b : Nat} {spare : Nat → Bool} {held : Bool} {fuel : Nat} {c0 c1 : Value} {y : DataW H × List MemPlace}
    (h : DataW.trod enc Tryd.prog w b spare held fuel 24 [c0, c1] = some y) : ∃ s : Int, S128 s ∧ c0 = .int .i64 (hiOf s) ∧ c1 = .int .u64 (loOf s) := by
  obtain ⟨ys, n', hn', hy, hlen, hyl, hf⟩ := DataW.trod_struct Tryd.underlying24 h
  match ys, hyl with
  | [y0, y1], _ =>
    have hC : Tryd.prog.cellsOf 3 = 1 := by kernel_rfl
    have hD : Tryd.prog.cellsOf 22 = 1 := by kernel_rfl
    have g0 := hf 0 _ rfl
    have g1 := hf 1 _ rfl
    simp [hC] at g0
    simp [hD] at g1
    obtain ⟨a, e0, -, w0⟩ := DataW.trod_int Tryd.underlying3 g0
    obtain ⟨l, e1, -, w1⟩ := DataW.trod_int Tryd.underlying22 g1
    simp at e0 e1
    subst e0 e1
    have h0 := wf_i64 w0
    have h1 := wf_u64 w1
    unfold I64 at h0
    refine ⟨a * 18446744073709551616 + l, ?_, ?_, ?_⟩
    · unfold S128; omega
    · rw [show hiOf (a * 18446744073709551616 + l) = a by unfold hiOf; omega]
    · rw [show loOf (a * 18446744073709551616 + l) = l by unfold loOf; omega]
set_option maxHeartbeats 4000000 in
theorem open_ag {H : Type} {enc : TypeId × Value → H} {w : World} {r : Reach} {b0 b : Nat} {spare : Nat → Bool} {held : Bool} {v : Value} {d : DataW H} {p : List MemPlace}
    (hv : Value.okWide Tryd.prog w r b0 28 v) (h : DataW.Trod enc Tryd.prog w b spare held 28 v d p) : ∃ a : Ag, (AgOk a ∧ PtOk a.f ∧ PtOk a.l) ∧ v = .agg #[.int .i64 a.n, .int .i64 (hiOf a.s), .int .u64 (loOf a.s), .int .i64 a.lo, .int .i64 a.hi, .int .i64 a.f.t, .int .i64 a.f.v, .int .i64 a.f.s, .int .i64 a.l.t, .int .i64 a.l.v, .int .i64 a.l.s] := by
  obtain ⟨cs, rfl, hsz⟩ := okWide_struct Tryd.underlying28 hv
  rw [show Tryd.prog.cellsOf 28 = 11 by kernel_rfl] at hsz
  obtain ⟨c0, c1, c2, c3, c4, c5, c6, c7, c8, c9, c10, rfl⟩ := array11 hsz
  clear hv hsz
  obtain ⟨fuel, hf⟩ := h
  obtain ⟨ys, n', hn', hy, hlen, hyl, hf⟩ := DataW.trod_struct Tryd.underlying28 hf
  match ys, hyl with
  | [y0, y1, y2, y3, y4, y5], _ =>
    have hC : Tryd.prog.cellsOf 3 = 1 := by kernel_rfl
    have hD : Tryd.prog.cellsOf 24 = 2 := by kernel_rfl
    have hE : Tryd.prog.cellsOf 26 = 3 := by kernel_rfl
    have g0 := hf 0 _ rfl
    have g1 := hf 1 _ rfl
    have g2 := hf 2 _ rfl
    have g3 := hf 3 _ rfl
    have g4 := hf 4 _ rfl
    have g5 := hf 5 _ rfl
    simp [hC, Value.cells] at g0
    simp [hD, Value.cells] at g1
    simp [hC, Value.cells] at g2
    simp [hC, Value.cells] at g3
    simp [hE, Value.cells] at g4
    simp [hE, Value.cells] at g5
    obtain ⟨n, e0, -, w0⟩ := DataW.trod_int Tryd.underlying3 g0
    obtain ⟨s, ws, rfl, rfl⟩ := read_sum g1
    obtain ⟨lo, e2, -, w2⟩ := DataW.trod_int Tryd.underlying3 g2
    obtain ⟨hi, e3, -, w3⟩ := DataW.trod_int Tryd.underlying3 g3
    obtain ⟨f, wf, rfl, rfl, rfl⟩ := read_point g4
    obtain ⟨l, wl, rfl, rfl, rfl⟩ := read_point g5
    simp at e0 e2 e3
    subst e0 e2 e3
    refine ⟨⟨n, s, lo, hi, f, l⟩, ?_, rfl⟩
    exact ⟨⟨wf_i64 w0, ws, wf_i64 w2, wf_i64 w3⟩, wf, wl⟩
end Go.Proofs.YthhgnngpaagagaaDoor
