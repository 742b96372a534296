/-
  A slice of points that came in.
-/
import Derived.Test.YthhgnngpaagagaaDoorArgs
import Derived.Test.YthhgnngpaagagaaDoorRows
import Derived.Test.YthhgnngpaagagaaDoorPt
import Derived.Deep.Slices
import Derived.Deep.Fields
import Derived.ChangeSame
namespace Go.Proofs.YthhgnngpaagagaaDoor
open Go.RowKit Go.ChangeShapes Go.WideShapes Go.Deep
set_option maxRecDepth 100000
/-- A slice of len points. -/
structure IsPoints (w : World) (a : Option Addr) (len cap : Nat) (f : Nat → Pt) : Prop where
  le : len ≤ cap
  cap_le : cap ≤ maxLen
  ok : ∀ j, j < len → PtOk (f j)
  sl : SlP w (fun x => x < w.heap.size) a len f
theorem points_cells : Tryd.prog.cellsOf 26 = 3 := by kernel_rfl
theorem open_points {H : Type} {enc : TypeId × Value → H} {w : World} {fuel : Nat} {a : Option Addr} {len cap : Nat} {x : DataW H × List MemPlace}
    (h : DataW.trod enc Tryd.prog w 0 (fun _ => true) true fuel 44 (Value.cells (.slice a len cap)).toList = some x) : ∃ f, IsPoints w a len cap f := by
  rcases open_slice Tryd.underlying44 h with ⟨hcs, _⟩ | ⟨ad, l, c, m, n, D, Pl, hcs, -, hl, hm, hmm, -, hi⟩
  · simp [Value.cells] at hcs
    obtain ⟨rfl, rfl, rfl⟩ := hcs
    exact ⟨fun _ => ⟨0, 0, 0⟩, Nat.le_refl _, Nat.zero_le _, fun j hj => by omega, fun hj => by omega⟩
  · simp [Value.cells] at hcs
    obtain ⟨rfl, rfl, rfl⟩ := hcs
    have hmc : m = cap := by simpa using hmm
    have hone : ∀ i, i < cap → ∃ p : Pt, w.cell? ((ad.add (i * 3)).add 0) = some (.int .i64 p.t) ∧ w.cell? ((ad.add (i * 3)).add 1) = some (.int .i64 p.v) ∧ w.cell? ((ad.add (i * 3)).add 2) = some (.int .i64 p.s) ∧ PtOk p := by
      intro i hic
      obtain ⟨cs', hc, ht'⟩ := hi i (by omega)
      rw [points_cells] at hc
      obtain ⟨ys, n', hn', hy, hlen, hyl, hf⟩ := DataW.trod_struct Tryd.underlying26 ht'
      obtain ⟨_, hcl, hat⟩ := World.cells?_some hc
      match cs', hcl with
      | [c0, c1, c2], _ =>
        match ys, hyl with
        | [y0, y1, y2], _ =>
          have hC : Tryd.prog.cellsOf 3 = 1 := by kernel_rfl
          have g0 := hf 0 _ rfl
          have g1 := hf 1 _ rfl
          have g2 := hf 2 _ rfl
          simp [hC] at g0
          simp [hC] at g1
          simp [hC] at g2
          obtain ⟨t, e0, -, w0⟩ := DataW.trod_int Tryd.underlying3 g0
          obtain ⟨v, e1, -, w1⟩ := DataW.trod_int Tryd.underlying3 g1
          obtain ⟨s, e2, -, w2⟩ := DataW.trod_int Tryd.underlying3 g2
          simp at e0 e1 e2
          subst e0 e1 e2
          exact ⟨⟨t, v, s⟩, by simpa using hat 0 (by omega), by simpa using hat 1 (by omega), by simpa using hat 2 (by omega), ⟨wf_i64 w0, wf_i64 w1, wf_i64 w2⟩⟩
    rcases Nat.eq_zero_or_pos len with h0 | h0
    · exact ⟨fun _ => ⟨0, 0, 0⟩, hl, hm, fun j hj => by omega, fun hj => by omega⟩
    · obtain ⟨b, off, spot⟩ := ad
      have hspot : spot = none := by
        obtain ⟨p, hv, -⟩ := hone 0 (by omega)
        simpa [Addr.add] using World.cell?_spot hv
      subst hspot
      have hadd : ∀ i j, ((⟨b, off, none⟩ : Addr).add i).add j = ⟨b, off + i + j, none⟩ := fun i j => by
        have h1 : (⟨b, off, none⟩ : Addr).add i = ⟨b, off + i, none⟩ := by unfold Addr.add; split <;> simp_all
        rw [h1]
        unfold Addr.add; split <;> simp_all
      have hone' : ∀ i, ∃ p : Pt, i < cap → w.cell? ⟨b, off + i * 3, none⟩ = some (.int .i64 p.t) ∧ w.cell? ⟨b, off + i * 3 + 1, none⟩ = some (.int .i64 p.v) ∧ w.cell? ⟨b, off + i * 3 + 2, none⟩ = some (.int .i64 p.s) ∧ PtOk p := by
        intro i
        by_cases hic : i < cap
        · obtain ⟨p, h1, h2, h3, h4⟩ := hone i hic
          rw [hadd] at h1 h2 h3
          exact ⟨p, fun _ => ⟨h1, h2, h3, h4⟩⟩
        · exact ⟨⟨0, 0, 0⟩, fun h => absurd h hic⟩
      have hsp := fun i => Classical.choose_spec (hone' i)
      refine ⟨fun i => Classical.choose (hone' i), hl, hm, fun j hj => (hsp j (by omega)).2.2.2, fun _ => ⟨b, off, rfl, World.block_lt_of_cell? w _ (hsp 0 (by omega)).1, fun j hj => ?_⟩⟩
      obtain ⟨h1, h2, h3, -⟩ := hsp j (by omega)
      exact ⟨h1, h2, h3⟩
theorem IsPoints.cut {w : World} {a : Option Addr} {len cap : Nat} {f : Nat → Pt} (h : IsPoints w a len cap f) (m : Nat) (hm : m ≤ len) :
    ∃ g : Nat → Pt, (∀ j, PtOk (g j)) ∧ SlP w (fun x => x < w.heap.size) a m g := by
  refine ⟨fun j => if j < m then f j else ⟨0, 0, 0⟩, fun j => ?_, (h.sl.take hm).congr fun j hj => (if_pos hj).symm⟩
  show PtOk (if j < m then f j else ⟨0, 0, 0⟩)
  by_cases hj : j < m
  · rw [if_pos hj]; exact h.ok j (by omega)
  · rw [if_neg hj]; exact ⟨by unfold I64; simp, by unfold I64; simp, by unfold I64; simp⟩
end Go.Proofs.YthhgnngpaagagaaDoor
