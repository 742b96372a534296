/-
  Points, and slices of points, as cells.
-/
import Derived.Test.YthhgnngpaagagaaDoorMem
namespace Go.Proofs.YthhgnngpaagagaaDoor
open Go.RowKit
/-- A point. -/
structure Pt where
  t : Int
  v : Int
  s : Int
deriving DecidableEq
def I64 (x : Int) : Prop := -9223372036854775808 ≤ x ∧ x ≤ 9223372036854775807
structure PtOk (p : Pt) : Prop where
  t : I64 p.t
  v : I64 p.v
  s : I64 p.s
/-- A slice of n points that lie in a block of D: point j is f j. -/
def SlP (w : World) (D : Nat → Prop) (A : Option Addr) (n : Nat) (f : Nat → Pt) : Prop :=
  0 < n → ∃ b off, A = some ⟨b, off, none⟩ ∧ D b ∧ ∀ j, j < n → w.cell? ⟨b, off + j * 3, none⟩ = some (.int .i64 (f j).t) ∧ w.cell? ⟨b, off + j * 3 + 1, none⟩ = some (.int .i64 (f j).v) ∧ w.cell? ⟨b, off + j * 3 + 2, none⟩ = some (.int .i64 (f j).s)
namespace SlP
variable {w w' : World} {D E : Nat → Prop} {A : Option Addr} {n m : Nat} {f g : Nat → Pt}
theorem nil (w : World) (D : Nat → Prop) (A : Option Addr) (f : Nat → Pt) : SlP w D A 0 f := fun h => absurd h (by omega)
theorem keep (h : SlP w D A n f) (hk : ∀ k, D k → k < w.heap.size → w'.heap[k]? = w.heap[k]?) : SlP w' D A n f := fun hn => by
  obtain ⟨b, off, e, hd, hc⟩ := h hn
  have hlt : b < w.heap.size := World.block_lt_of_cell? w _ (hc 0 hn).1
  refine ⟨b, off, e, hd, fun j hj => ?_⟩
  obtain ⟨h1, h2, h3⟩ := hc j hj
  exact ⟨(World.cell?_of_block (w := w) (a := ⟨b, _, none⟩) (hk b hd hlt)).trans h1, (World.cell?_of_block (w := w) (a := ⟨b, _, none⟩) (hk b hd hlt)).trans h2, (World.cell?_of_block (w := w) (a := ⟨b, _, none⟩) (hk b hd hlt)).trans h3⟩
theorem below (h : SlP w D A n f) (hk : Below w.heap.size w w') : SlP w' D A n f := h.keep fun k _ hlt => hk.block k hlt
theorem keeps (h : SlP w D A n f) (hk : Keeps (fun _ => False) w w') : SlP w' D A n f := h.keep fun k _ hlt => hk.block k hlt (fun h => h)
theorem mono (h : SlP w D A n f) (hd : ∀ k, D k → E k) : SlP w E A n f := fun hn => by
  obtain ⟨b, off, e, hD, hc⟩ := h hn
  exact ⟨b, off, e, hd b hD, hc⟩
theorem take (h : SlP w D A n f) (hm : m ≤ n) : SlP w D A m f := fun hn => by
  obtain ⟨b, off, e, hD, hc⟩ := h (by omega)
  exact ⟨b, off, e, hD, fun j hj => hc j (by omega)⟩
theorem congr (h : SlP w D A n f) (hf : ∀ j, j < n → f j = g j) : SlP w D A n g := fun hn => by
  obtain ⟨b, off, e, hD, hc⟩ := h hn
  exact ⟨b, off, e, hD, fun j hj => by rw [← hf j hj]; exact hc j hj⟩
theorem drop {b off : Nat} (h : SlP w D (some ⟨b, off, none⟩) (m + n) f) : SlP w D (some ⟨b, off + m * 3, none⟩) n (fun j => f (m + j)) := fun hn => by
  obtain ⟨b', off', e, hD, hc⟩ := h (by omega)
  simp only [Option.some.injEq, Addr.mk.injEq] at e
  obtain ⟨rfl, rfl, -⟩ := e
  refine ⟨b, _, rfl, hD, fun j hj => ?_⟩
  have := hc (m + j) (by omega)
  rw [show off + (m + j) * 3 = off + m * 3 + j * 3 by omega] at this
  exact this
end SlP
end Go.Proofs.YthhgnngpaagagaaDoor
