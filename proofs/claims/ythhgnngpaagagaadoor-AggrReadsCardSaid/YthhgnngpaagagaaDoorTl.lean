/-
  Appending to a slice that came in with no spare room, or to a row of the call's own.
-/
import Derived.Test.YthhgnngpaagagaaDoorArgs
import Derived.ArgAppend
namespace Go.Proofs.YthhgnngpaagagaaDoor
open Go.RowKit
/-- A slice of n elements xs that may be appended to: a row of the call's own, or one without spare room. -/
def Tl (w : World) (e : TypeId) (base : Nat) (v : Value) (n : Nat) (xs : List Value) : Prop :=
  w.ownsRow base e 1 v n xs ∨ ∃ A, v = .slice A n n ∧ xs.length = n ∧ (0 < n → ∃ b off, A = some ⟨b, off, none⟩ ∧ b < base ∧ ∀ j u, xs[j]? = some u → w.cell? ⟨b, off + j, none⟩ = some u)
theorem Tl.alloc {w : World} {e : TypeId} {base n : Nat} {v : Value} {xs : List Value} (h : Tl w e base v n xs) (hb : base ≤ w.heap.size) (o : Obj) : Tl (w.alloc o) e base v n xs := by
  rcases h with h | ⟨A, rfl, hl, hA⟩
  · exact .inl (h.alloc o)
  · refine .inr ⟨A, rfl, hl, fun hn => ?_⟩
    obtain ⟨b, off, rfl, hlt, hc⟩ := hA hn
    exact ⟨b, off, rfl, hlt, fun j u hu => (World.cell?_alloc_lt w o _ (by show b < _; omega)).trans (hc j u hu)⟩
section
variable {P : Program} {w : World} {t e : TypeId} {z : Value} {bytes base n m c : Nat} {v : Value} {xs : List Value} {f : Nat → Value} {b off : Nat}
theorem wpList_append_tl {ops : Array Oper} {rest : List Oper} {o : Oper} {a : Act} {Q : Exit → Act → World → Prop} (he : Elem1 P t e z bytes) (hgd : o.guard = none) (s x : Operand)
    (ho : o.op = .call { callee := .builtin .append, args := #[s, x], argTypes := #[t, t] }) (hs : a.eval s = v) (hx : a.eval x = .slice (some ⟨b, off, none⟩) m c)
    (h : Tl w e base v n xs) (hm : 0 < m) (hc : ∀ j, j < m → w.cell? ⟨b, off + j, none⟩ = some (f j)) (h1 : ∀ j, j < m → (f j).oneCell' = true)
    (h63 : n + m ≤ maxLen) (hbytes : (n + m) * bytes ≤ 140737488355328) (hbase : base ≤ w.heap.size)
    (k : ∀ v' w', w'.ownsRow base e 1 v' (n + m) (xs ++ (List.range m).map f) → Below base w w' → wpList P ops Q rest (a.put o.dst v') w') : wpList P ops Q (o :: rest) a w := by
  rcases h with h | ⟨A, rfl, hl, hA⟩
  · refine wpList_append_sl (D := fun _ => True) (A := some ⟨b, off, none⟩) (f := f) he hgd s x ho hs hx h (fun _ => ⟨b, off, rfl, trivial, hc⟩) h1 h63 hbytes hbase ?_
    intro v' w' hown hg _
    exact k v' w' hown ((Below.refl base w).grown hg hbase (fun q hq => (h.lt q hq).1))
  · obtain ⟨ht, hz1, i, hi, hz, hs1, hb1⟩ := he
    refine wpList_append_grows w hgd s x t ho e i z 1 bytes ht hi hz hs1 hb1 hz1 (by omega) A n n xs hs ?_ (by omega) ?_ ⟨b, off, none⟩ m c ((List.range m).map f) hx (by simp) ?_ ?_ (by omega) h63 hbytes ?_
    · intro hA0
      rcases Nat.eq_zero_or_pos n with h0 | h0
      · exact ⟨h0, h0⟩
      · obtain ⟨b', off', e', _⟩ := hA h0
        rw [hA0] at e'; cases e'
    · intro b' e' j u hu
      have hj : j < xs.length := (List.getElem?_eq_some_iff.1 hu).1
      obtain ⟨b2, off2, e2, _, hc2⟩ := hA (by omega)
      rw [e'] at e2
      injection e2 with e2
      subst e2
      have hadd : (⟨b2, off2, none⟩ : Addr).add j = ⟨b2, off2 + j, none⟩ := by unfold Addr.add; split <;> simp_all
      rw [hadd]
      exact hc2 j u hu
    · intro j u hu
      rw [List.getElem?_map] at hu
      rcases Nat.lt_or_ge j m with hj | hj
      · rw [List.getElem?_range hj] at hu
        simp at hu
        subst hu
        have hadd : (⟨b, off, none⟩ : Addr).add j = ⟨b, off + j, none⟩ := by unfold Addr.add; split <;> simp_all
        rw [hadd]
        exact hc j hj
      · rw [List.getElem?_eq_none (by simpa using hj)] at hu
        cases hu
    · intro u hu
      rw [List.mem_map] at hu
      obtain ⟨j, hj, rfl⟩ := hu
      exact h1 j (by simpa using hj)
    · intro v' w' hown hg
      exact k v' w' (own_base hown hbase) ((Below.refl base w).grown hg hbase (fun q hq => by cases hq))
end
theorem cell_one (w : World) (t : TypeId) (u : Value) : ∀ j, j < 1 → (w.alloc (.cells #[u] t)).cell? ⟨w.heap.size, 0 + j, none⟩ = some u := by
  intro j hj
  obtain rfl : j = 0 := by omega
  rw [(Blk.fresh w t #[u]).cell (0 + 0)]
  rfl
end Go.Proofs.YthhgnngpaagagaaDoor
