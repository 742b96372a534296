/-
  A slice of pieces (a number and how many bits) that came in.
-/
import Derived.Test.YtgphdigcilbnlaaArgs
import Derived.Test.YtgphdigcilbnlaaRows
import Derived.Deep.Slices
import Derived.Deep.Fields
import Derived.ChangeSame
namespace Go.Proofs.Ytgphdigcilbnlaa
open Go.RowKit Go.ChangeShapes Go.WideShapes Go.Deep
/-- A slice of len pieces: their numbers, and how many bits each. -/
structure IsPieces (w : World) (a : Option Addr) (len cap : Nat) (vs ns : Nat → Int) : Prop where
  le : len ≤ cap
  cap_le : cap ≤ maxLen
  v : ∀ j, j < len → 0 ≤ vs j ∧ vs j < 18446744073709551616
  n : ∀ j, j < len → -9223372036854775808 ≤ ns j ∧ ns j ≤ 9223372036854775807
  cells : 0 < len → ∃ b off, a = some ⟨b, off, none⟩ ∧ b < w.heap.size ∧ ∀ j, j < len → w.cell? ⟨b, off + j * 2, none⟩ = some (.int .u64 (vs j)) ∧ w.cell? ⟨b, off + j * 2 + 1, none⟩ = some (.int .i64 (ns j))
theorem IsPieces.keeps {w w' : World} {a : Option Addr} {len cap : Nat} {vs ns : Nat → Int} (h : IsPieces w a len cap vs ns) (hk : Keeps (fun _ => False) w w') : IsPieces w' a len cap vs ns := by
  obtain ⟨h1, h2, h3, h4, h5⟩ := h
  refine ⟨h1, h2, h3, h4, fun hl => ?_⟩
  obtain ⟨b, off, rfl, hb, hc⟩ := h5 hl
  refine ⟨b, off, rfl, Nat.lt_of_lt_of_le hb hk.size, fun j hj => ?_⟩
  obtain ⟨c1, c2⟩ := hc j hj
  exact ⟨(World.cell?_of_block (w := w) (a := ⟨b, off + j * 2, none⟩) (hk.block b hb (fun h => h))).trans c1, (World.cell?_of_block (w := w) (a := ⟨b, off + j * 2 + 1, none⟩) (hk.block b hb (fun h => h))).trans c2⟩

theorem pieces_cells : Try.prog.cellsOf 48 = 2 := by kernel_rfl
theorem open_pieces {H : Type} {enc : TypeId × Value → H} {w : World} {fuel : Nat} {a : Option Addr} {len cap : Nat} {x : DataW H × List MemPlace}
    (h : DataW.trod enc Try.prog w 0 (fun _ => true) true fuel 40 (Value.cells (.slice a len cap)).toList = some x) : ∃ vs ns, IsPieces w a len cap vs ns := by
  rcases open_slice Try.underlying40 h with ⟨hcs, _⟩ | ⟨ad, l, c, m, n, D, Pl, hcs, -, hl, hm, hmm, -, hi⟩
  · simp [Value.cells] at hcs
    obtain ⟨rfl, rfl, rfl⟩ := hcs
    exact ⟨fun _ => 0, fun _ => 0, Nat.le_refl _, Nat.zero_le _, fun j hj => by omega, fun j hj => by omega, fun hj => by omega⟩
  · simp [Value.cells] at hcs
    obtain ⟨rfl, rfl, rfl⟩ := hcs
    have hmc : m = cap := by simpa using hmm
    have hone : ∀ i, i < cap → ∃ v k : Int, w.cell? ((ad.add (i * 2)).add 0) = some (.int .u64 v) ∧ w.cell? ((ad.add (i * 2)).add 1) = some (.int .i64 k) ∧ (Lit.int .u64 v).wf = true ∧ (Lit.int .i64 k).wf = true := by
      intro i hic
      obtain ⟨cs', hc, ht'⟩ := hi i (by omega)
      rw [pieces_cells] at hc
      obtain ⟨ys, n', hn', hy, hlen, hyl, hf⟩ := DataW.trod_struct Try.underlying48 ht'
      obtain ⟨_, hcl, hat⟩ := World.cells?_some hc
      match cs', hcl with
      | [c0, c1], _ =>
        match ys, hyl with
        | [y0, y1], _ =>
          have hC : Try.prog.cellsOf 31 = 1 := by kernel_rfl
          have hC2 : Try.prog.cellsOf 3 = 1 := by kernel_rfl
          have g0 := hf 0 _ rfl
          have g1 := hf 1 _ rfl
          simp [hC] at g0
          simp [hC2] at g1
          obtain ⟨v, e0, -, w0⟩ := DataW.trod_int Try.underlying31 g0
          obtain ⟨k, e1, -, w1⟩ := DataW.trod_int Try.underlying3 g1
          simp at e0 e1
          subst e0 e1
          exact ⟨v, k, by simpa using hat 0 (by omega), by simpa using hat 1 (by omega), w0, w1⟩
    rcases Nat.eq_zero_or_pos len with h0 | h0
    · exact ⟨fun _ => 0, fun _ => 0, hl, hm, fun j hj => by omega, fun j hj => by omega, fun hj => by omega⟩
    · obtain ⟨b, off, spot⟩ := ad
      have hspot : spot = none := by
        obtain ⟨v, k, hv, -⟩ := hone 0 (by omega)
        simpa [Addr.add] using World.cell?_spot hv
      subst hspot
      have hadd : ∀ i j, ((⟨b, off, none⟩ : Addr).add i).add j = ⟨b, off + i + j, none⟩ := fun i j => by
        have h1 : (⟨b, off, none⟩ : Addr).add i = ⟨b, off + i, none⟩ := by unfold Addr.add; split <;> simp_all
        rw [h1]
        unfold Addr.add; split <;> simp_all
      have hone' : ∀ i, ∃ p : Int × Int, i < cap → w.cell? ⟨b, off + i * 2, none⟩ = some (.int .u64 p.1) ∧ w.cell? ⟨b, off + i * 2 + 1, none⟩ = some (.int .i64 p.2) ∧ (Lit.int .u64 p.1).wf = true ∧ (Lit.int .i64 p.2).wf = true := by
        intro i
        by_cases hic : i < cap
        · obtain ⟨v, k, h1, h2, h3, h4⟩ := hone i hic
          rw [hadd] at h1 h2
          exact ⟨(v, k), fun _ => ⟨h1, h2, h3, h4⟩⟩
        · exact ⟨(0, 0), fun h => absurd h hic⟩
      have hsp := fun i => Classical.choose_spec (hone' i)
      refine ⟨fun i => (Classical.choose (hone' i)).1, fun i => (Classical.choose (hone' i)).2, hl, hm, fun j hj => ?_, fun j hj => ?_, fun _ => ⟨b, off, rfl, ?_, fun j hj => ?_⟩⟩
      · have := bounds_u64 (hsp j (by omega)).2.2.1
        omega
      · exact bounds_i64 (hsp j (by omega)).2.2.2
      · exact World.block_lt_of_cell? w _ (hsp 0 (by omega)).1
      · exact ⟨(hsp j (by omega)).1, (hsp j (by omega)).2.1⟩
end Go.Proofs.Ytgphdigcilbnlaa
