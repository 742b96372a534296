/-
  An argument that is a slice of slices of bytes.
-/
import Derived.Test.YtdgedhamacpghaaRows
import Derived.Test.YtdgedhamacpghaaArgs
import Derived.Deep.Matrix
namespace Go.Proofs.Ytdgedhamacpghaa
open Go.RowKit Go.ChangeShapes Go.WideShapes Go.Deep
structure IsRows (w : World) (a : Option Addr) (len cap : Nat) (R : Nat → Option Addr × Nat × Nat) (B : Nat → List Nat) : Prop where
  le : len ≤ cap ∧ cap ≤ 9223372036854775807
  at_ : 0 < len → ∃ b off, a = some ⟨b, off, none⟩ ∧ b < w.heap.size ∧ ∀ j, j < len → w.cell? ⟨b, off + j, none⟩ = some (.slice (R j).1 (R j).2.1 (R j).2.2)
  row : ∀ j, j < len → (B j).length = (R j).2.1 ∧ (R j).2.1 ≤ (R j).2.2 ∧ (R j).2.2 ≤ 9223372036854775807 ∧ (∀ i, (B j).getD i 0 < 256) ∧ Sl w (fun x => x < w.heap.size) (R j).1 (R j).2.1 (byteC (B j))
theorem open_rows {H : Type} {enc : TypeId × Value → H} {w : World} {base fuel : Nat} {held : Bool} {a : Option Addr} {len cap : Nat} {x : DataW H × List MemPlace}
    (h : DataW.trod enc Try.prog w base (fun _ => true) held fuel 37 (Value.slice a len cap).cells.toList = some x) : ∃ R B, IsRows w a len cap R B := by
  rcases open_int_rows (k := .u8) (q := 5) Try.underlying37 Try.underlying22 Try.underlying5 (by kernel_rfl) (by kernel_rfl) h with ⟨hcs, -⟩ | ⟨a', l, c, A, L, C, Z, hcs, -, hl, hm, -, hr⟩
  · simp [Value.cells] at hcs
    obtain ⟨rfl, rfl, rfl⟩ := hcs
    exact ⟨fun _ => (none, 0, 0), fun _ => [], ⟨by omega, by omega⟩, fun h => absurd h (by omega), fun j hj => absurd hj (by omega)⟩
  · simp [Value.cells] at hcs
    obtain ⟨rfl, rfl, rfl⟩ := hcs
    unfold maxLen at hm
    have each : ∀ j, j < len → ∃ bs : List Nat, bs.length = L j ∧ (∀ i, bs.getD i 0 < 256) ∧ Sl w (fun x => x < w.heap.size) (A j) (L j) (byteC bs) := by
      intro j hj
      obtain ⟨h1, h2, h3, h4, h5, h6, h7⟩ := hr j (by omega)
      have hrow : IsRow .u8 w (A j) (L j) (C j) (Z j) := by
        cases hA : A j with
        | none =>
          have hC := h6 hA
          exact .inl ⟨rfl, by omega, hC, List.eq_nil_of_length_eq_zero (by omega)⟩
        | some a' => exact .inr ⟨a', rfl, h2, h3, h4, fun i hi => (h7 a' hA).2 i (by omega), h5⟩
      obtain ⟨bs, g1, g2, g3⟩ := hrow.bytes (L j) (Nat.le_refl _)
      exact ⟨bs, g1, g2, g3⟩
    obtain ⟨B, hB⟩ := choose_lt each
    refine ⟨fun j => (A j, L j, C j), B, ⟨hl, hm⟩, fun h0 => ?_, fun j hj => ?_⟩
    · obtain ⟨b, off, spot⟩ := a'
      have hc := (hr 0 (by omega)).1
      have hspot : spot = none := by simpa [Addr.add] using World.cell?_spot hc
      subst hspot
      have hadd : ∀ j, (⟨b, off, none⟩ : Addr).add j = ⟨b, off + j, none⟩ := fun j => by unfold Addr.add; split <;> simp_all
      refine ⟨b, off, rfl, World.block_lt_of_cell? w _ hc, fun j hj => ?_⟩
      rw [← hadd]
      exact (hr j (by omega)).1
    · obtain ⟨h1, h2, h3, -⟩ := hr j (by omega)
      unfold maxLen at h3
      exact ⟨(hB j hj).1, h2, h3, (hB j hj).2.1, (hB j hj).2.2⟩
end Go.Proofs.Ytdgedhamacpghaa
