/-
  Rows of points that a call makes by append.
-/
import Derived.Test.YthhgnngpaagagaaOwn
import Derived.Test.YthhgnngpaagagaaPt
import Derived.Test.YthhgnngpaagagaaRows
namespace Go.Proofs.Ythhgnngpaagagaa
open Go.RowKit
def ptCells (l : List Pt) : List Value := l.flatMap fun p => [.int .i64 p.t, .int .i64 p.v, .int .i64 p.s]
theorem ptCells_append (l l' : List Pt) : ptCells (l ++ l') = ptCells l ++ ptCells l' := by simp [ptCells]
theorem ptCells_length (l : List Pt) : (ptCells l).length = l.length * 3 := by
  induction l with
  | nil => rfl
  | cons p l ih =>
    show (Value.int .i64 p.t :: Value.int .i64 p.v :: Value.int .i64 p.s :: ptCells l).length = _
    simp only [List.length_cons, ih]
    omega
theorem ptCells_at : ∀ (l : List Pt) (j : Nat) (p : Pt), l[j]? = some p → (ptCells l)[j * 3]? = some (.int .i64 p.t) ∧ (ptCells l)[j * 3 + 1]? = some (.int .i64 p.v) ∧ (ptCells l)[j * 3 + 2]? = some (.int .i64 p.s)
  | [], _, _, h => by simp at h
  | q :: l, 0, p, h => by
    simp at h
    subst h
    exact ⟨rfl, rfl, rfl⟩
  | q :: l, j + 1, p, h => by
    simp at h
    obtain ⟨h1, h2, h3⟩ := ptCells_at l j p h
    have e : ptCells (q :: l) = .int .i64 q.t :: .int .i64 q.v :: .int .i64 q.s :: ptCells l := rfl
    rw [e, show (j + 1) * 3 = j * 3 + 1 + 1 + 1 by omega]
    simp only [List.getElem?_cons_succ]
    exact ⟨h1, h2, h3⟩
/-- The slice v owns just the points l. -/
def PtRow (w : World) (base : Nat) (v : Value) (l : List Pt) : Prop := w.ownsRow base 27 3 v l.length (ptCells l)
namespace PtRow
variable {w w' : World} {base : Nat} {v : Value} {l : List Pt}
theorem nil (w : World) (base : Nat) : PtRow w base (.slice none 0 0) [] := ⟨rfl, .inl ⟨rfl, rfl⟩⟩
theorem form (h : PtRow w base v l) : ∃ A c, v = .slice A l.length c ∧ l.length ≤ c := by
  obtain ⟨A, c, h1, h2, -⟩ := own_form h
  exact ⟨A, c, h1, h2⟩
theorem sl {A : Option Addr} {c : Nat} (h : PtRow w base (.slice A l.length c) l) : SlP w (fun k => base ≤ k ∧ (Value.slice A l.length c).ownBlock = some k) A l.length (fun j => l.getD j ⟨0, 0, 0⟩) := by
  intro hn
  obtain ⟨g, hA, hb⟩ : ∃ g, A = some ⟨g, 0, none⟩ ∧ base ≤ g := by
    rcases h.2 with ⟨_, h0⟩ | ⟨g, _, _, hv, hb, _⟩
    · omega
    · exact ⟨g, by injection hv, hb⟩
  subst hA
  refine ⟨g, 0, rfl, ⟨hb, rfl⟩, fun j hj => ?_⟩
  have hadd : ∀ i, (⟨g, 0, none⟩ : Addr).add i = ⟨g, 0 + i, none⟩ := fun i => by unfold Addr.add; split <;> simp_all
  obtain ⟨h1, h2, h3⟩ := ptCells_at l j l[j] (List.getElem?_eq_getElem hj)
  have e : (fun j => l.getD j (⟨0, 0, 0⟩ : Pt)) j = l[j] := by simp [List.getD_eq_getElem?_getD, hj]
  rw [e]
  have c1 := World.ownsRow.cells h (g := g) rfl _ _ h1
  have c2 := World.ownsRow.cells h (g := g) rfl _ _ h2
  have c3 := World.ownsRow.cells h (g := g) rfl _ _ h3
  rw [hadd] at c1 c2 c3
  exact ⟨c1, c2, c3⟩
theorem keeps {S : Nat → Prop} (h : PtRow w base v l) (hk : Keeps S w w') (hne : ∀ g, v.ownBlock = some g → ¬ S g) : PtRow w' base v l := own_keeps h hk hne
theorem below (h : PtRow w base v l) (hb : Below w.heap.size w w') : PtRow w' base v l := own_keeps h (Keeps.of_below (S := fun _ => False) hb) (fun _ _ h => h)
theorem ownBlock_lt (h : PtRow w base v l) : ∀ g, v.ownBlock = some g → base ≤ g ∧ g < w.heap.size := by
  intro g hg
  rcases h.2 with ⟨rfl, _⟩ | ⟨g', cap, cur, rfl, hb, hh, _⟩
  · simp [Value.ownBlock] at hg
  · have : g' = g := by simpa [Value.ownBlock] using hg
    subst this
    exact ⟨hb, (Array.getElem?_eq_some_iff.1 hh).1⟩
end PtRow
/-- Behind an append: known blocks of another type than the row's stay. -/
theorem Own.grown {w0 w w' : World} {L : List (Nat × TypeId × Array Value)} {row : Option Nat} (h : Own w0 L w) (hg : w.grownBy w' row) (hrow : ∀ k, row = some k → w0.heap.size ≤ k ∧ ∀ b ∈ L, b.1 ≠ k) : Own w0 L w' := by
  have hk : Keeps (fun k => row = some k) w w' := (Keeps.refl _ w).grown hg (fun k e _ => e)
  refine ⟨?_, fun b hb => ⟨(h.blk b hb).1, (h.blk b hb).2.keeps hk (fun e => (hrow _ e).2 b hb rfl)⟩, h.nd⟩
  exact h.bel.trans (hk.below h.bel.size (fun k hlt e => by have := (hrow k e).1; omega))
theorem points_info : (Try.prog.info? 27).map (fun i => (i.zero, i.size, i.bytes)) = some (some (.agg #[.int .i64 0, .int .i64 0, .int .i64 0]), 3, 24) := by kernel_rfl
/-- append(back, p): p lies alone in the block g. -/
theorem run_append_pt {w : World} {base g : Nat} {v : Value} {l : List Pt} {p : Pt} {c : Nat} {ty : TypeId} (hown : PtRow w base v l) (hg : Blk w g 27 #[.int .i64 p.t, .int .i64 p.v, .int .i64 p.s])
    (h63 : l.length < 4294967296) (hbase : base ≤ w.heap.size) :
    ∃ v' w', (Builtin.append_ #[22, 22] ty #[v, .slice (some ⟨g, 0, none⟩) 1 c]).run Try.prog w = .ok v' w' ∧ PtRow w' base v' (l ++ [p]) ∧ w.grownBy w' v.ownBlock ∧ (v'.ownBlock = v.ownBlock ∨ v'.ownBlock = some w.heap.size) := by
  obtain ⟨i, hi, hz, hs, hb⟩ := info_parts points_info
  have hadd : ∀ i, (⟨g, 0, none⟩ : Addr).add i = ⟨g, 0 + i, none⟩ := fun i => by unfold Addr.add; split <;> simp_all
  obtain ⟨v', w', h1, h2, h3, _, h4⟩ := run_append_own_at (P := Try.prog) w base 22 ty 27 i _ 3 24 Try.underlying22 hi hz hs hb rfl (by decide) v l.length (ptCells l) hown ⟨g, 0, none⟩ 1 c [.int .i64 p.t, .int .i64 p.v, .int .i64 p.s] rfl
    (fun j u hu => by
      rw [hadd, Nat.zero_add, hg.cell j]
      simpa using hu)
    (by intro u hu; simp at hu; rcases hu with rfl | rfl | rfl <;> rfl) (by unfold maxLen; omega) (by omega) hbase
  refine ⟨v', w', h1, ?_, h3, h4⟩
  unfold PtRow
  rw [ptCells_append, List.length_append]
  exact h2
theorem wpList_append_pt {w : World} {base g : Nat} {v : Value} {l : List Pt} {p : Pt} {c : Nat} {ops : Array Oper} {rest : List Oper} {o : Oper} {a : Act} {Q : Exit → Act → World → Prop} (hgd : o.guard = none) (s x : Operand)
    (ho : o.op = .call { callee := .builtin .append, args := #[s, x], argTypes := #[22, 22] }) (hs : a.eval s = v) (hx : a.eval x = .slice (some ⟨g, 0, none⟩) 1 c)
    (hown : PtRow w base v l) (hg : Blk w g 27 #[.int .i64 p.t, .int .i64 p.v, .int .i64 p.s]) (h63 : l.length < 4294967296) (hbase : base ≤ w.heap.size)
    (h : ∀ v' w', PtRow w' base v' (l ++ [p]) → w.grownBy w' v.ownBlock → (v'.ownBlock = v.ownBlock ∨ v'.ownBlock = some w.heap.size) → wpList Try.prog ops Q rest (a.put o.dst v') w') : wpList Try.prog ops Q (o :: rest) a w := by
  refine wpList_plain hgd fun K hK => ?_
  obtain ⟨v', w', hrun, h2, h3, h4⟩ := run_append_pt (ty := o.type) (c := c) hown hg h63 hbase
  unfold Oper.wp execOp
  simp only [ho, resolve, invoke, builtin, Sem.run_bind, Sem.run_pure, Result.andThen_ok, List.map_toArray, List.map_cons, List.map_nil, hs, hx, hrun]
  exact hK _ _ (h v' w' h2 h3 h4)
end Go.Proofs.Ythhgnngpaagagaa
