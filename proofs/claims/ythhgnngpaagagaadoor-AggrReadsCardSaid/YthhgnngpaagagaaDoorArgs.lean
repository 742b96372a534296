/-
  What a law's arguments are to its walk.
-/
import Derived.Test.YthhgnngpaagagaaDoorMem
import Derived.ProofKit
import Derived.OpenShut
namespace Go.Proofs.YthhgnngpaagagaaDoor
open Go.RowKit
/-- A slice of integers that came in: nil, or a row of cap cells, the numbers zs. -/
def IsRow (k : IntKind) (w : World) (a : Option Addr) (len cap : Nat) (zs : List Int) : Prop :=
  (a = none ∧ len = 0 ∧ cap = 0 ∧ zs = []) ∨
  ∃ x, a = some x ∧ len ≤ cap ∧ cap ≤ maxLen ∧ zs.length = cap ∧ (∀ i, i < zs.length → w.cell? (x.add i) = some (.int k (zs.getD i 0))) ∧ ∀ n ∈ zs, (Lit.int k n).wf = true
/-- The bytes of a list as cells. -/
def byteC (bs : List Nat) (j : Nat) : Value := .int .u8 ((bs.getD j 0 : Nat) : Int)
def intC (xs : List Int) (j : Nat) : Value := .int .i64 (xs.getD j 0)
theorem IsRow.le {k : IntKind} {w : World} {a : Option Addr} {len cap : Nat} {zs : List Int} (h : IsRow k w a len cap zs) : len ≤ cap ∧ cap ≤ 9223372036854775807 ∧ zs.length = cap := by
  rcases h with ⟨rfl, rfl, rfl, rfl⟩ | ⟨x, rfl, hl, hm, hz, -, -⟩
  · simp
  · unfold maxLen at hm
    omega
theorem IsRow.sl {k : IntKind} {w : World} {a : Option Addr} {len cap : Nat} {zs : List Int} (h : IsRow k w a len cap zs) (m : Nat) (hm : m ≤ len) : Sl w (fun x => x < w.heap.size) a m (fun j => .int k (zs.getD j 0)) := by
  intro h0
  rcases h with ⟨rfl, rfl, rfl, rfl⟩ | ⟨x, rfl, hl, hm, hz, hcell, -⟩
  · omega
  · obtain ⟨b, off, spot⟩ := x
    have hc := hcell 0 (by omega)
    have hspot : spot = none := by simpa [Addr.add] using World.cell?_spot hc
    subst hspot
    have hadd : ∀ j, (⟨b, off, none⟩ : Addr).add j = ⟨b, off + j, none⟩ := fun j => by unfold Addr.add; split <;> simp_all
    refine ⟨b, off, rfl, World.block_lt_of_cell? w _ hc, fun j hj => ?_⟩
    rw [← hadd]
    exact hcell j (by omega)
theorem IsRow.wf {k : IntKind} {w : World} {a : Option Addr} {len cap : Nat} {zs : List Int} (h : IsRow k w a len cap zs) (j : Nat) (hj : j < len) : (Lit.int k (zs.getD j 0)).wf = true := by
  have h1 := h.le
  rcases h with ⟨rfl, rfl, rfl, rfl⟩ | ⟨x, rfl, hl, hm, hz, -, hw⟩
  · omega
  · rw [List.getD_eq_getElem?_getD, List.getElem?_eq_getElem (by omega)]
    exact hw _ (List.getElem_mem _)
theorem wf_u8 {z : Int} (h : (Lit.int .u8 z).wf = true) : 0 ≤ z ∧ z < 256 := by
  simp [Lit.wf, IntKind.min, IntKind.max, IntKind.signed, IntKind.bits] at h
  omega
theorem wf_i64 {z : Int} (h : (Lit.int .i64 z).wf = true) : -9223372036854775808 ≤ z ∧ z ≤ 9223372036854775807 := by
  simp [Lit.wf, IntKind.min, IntKind.max, IntKind.signed, IntKind.bits] at h
  omega
theorem IsRow.bytes {w : World} {a : Option Addr} {len cap : Nat} {zs : List Int} (h : IsRow .u8 w a len cap zs) (m : Nat) (hm : m ≤ len) :
    ∃ bs : List Nat, bs.length = m ∧ (∀ j, bs.getD j 0 < 256) ∧ Sl w (fun x => x < w.heap.size) a m (byteC bs) := by
  have h1 := h.le
  refine ⟨(zs.take m).map Int.toNat, by simp; omega, fun j => ?_, (h.sl m hm).congr fun j hj => ?_⟩
  · rw [List.getD_eq_getElem?_getD, List.getElem?_map]
    rcases Nat.lt_or_ge j m with hj | hj
    · rw [List.getElem?_take_of_lt hj]
      have := wf_u8 (h.wf j (by omega))
      rw [List.getD_eq_getElem?_getD] at this
      cases hz : zs[j]? with
      | none => simp
      | some z => rw [hz] at this; simp at this ⊢; omega
    · rw [List.getElem?_eq_none (by simp; omega)]
      simp
  · have := wf_u8 (h.wf j (by omega))
    unfold byteC
    rw [List.getD_eq_getElem?_getD, List.getD_eq_getElem?_getD, List.getElem?_map, List.getElem?_take_of_lt hj]
    rw [List.getD_eq_getElem?_getD] at this
    rw [List.getElem?_eq_getElem (by omega)] at this ⊢
    simp at this ⊢
    omega
theorem IsRow.ints {w : World} {a : Option Addr} {len cap : Nat} {zs : List Int} (h : IsRow .i64 w a len cap zs) (m : Nat) (hm : m ≤ len) :
    ∃ xs : List Int, xs.length = m ∧ (∀ j, -9223372036854775808 ≤ xs.getD j 0 ∧ xs.getD j 0 ≤ 9223372036854775807) ∧ Sl w (fun x => x < w.heap.size) a m (intC xs) := by
  have h1 := h.le
  have hg : ∀ j, j < m → (zs.take m).getD j 0 = zs.getD j 0 := fun j hj => by
    rw [List.getD_eq_getElem?_getD, List.getD_eq_getElem?_getD, List.getElem?_take_of_lt hj]
  refine ⟨zs.take m, by simp; omega, fun j => ?_, (h.sl m hm).congr fun j hj => ?_⟩
  · rcases Nat.lt_or_ge j m with hj | hj
    · rw [hg j hj]
      exact wf_i64 (h.wf j (by omega))
    · rw [List.getD_eq_getElem?_getD, List.getElem?_eq_none (by simp; omega)]
      simp
  · unfold intC
    rw [hg j hj]
end Go.Proofs.YthhgnngpaagagaaDoor
