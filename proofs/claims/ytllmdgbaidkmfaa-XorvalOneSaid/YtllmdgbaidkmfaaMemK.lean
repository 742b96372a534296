/-
  append onto a row that the call owns: what stood in the old row stands there still (also where the new slice lies elsewhere).
-/
import Derived.Test.YtllmdgbaidkmfaaMem
namespace Go.Proofs.Ytllmdgbaidkmfaa
open Go.RowKit
set_option linter.unusedVariables false
section
variable {P : Program} {w : World} {t e ty : TypeId} {z : Value} {bytes base n m c cap g : Nat} {xs : List Value} {D : Nat → Prop} {ad : Addr} {f : Nat → Value}

theorem run_append_kept (he : Elem1 P t e z bytes) (hown : w.ownsRow base e 1 (.slice (some ⟨g, 0, none⟩) n cap) n xs) (hsl : Sl w D (some ad) m f) (h1 : ∀ j, j < m → (f j).oneCell' = true)
    (h63 : n + m ≤ maxLen) (hbytes : (n + m) * bytes ≤ 140737488355328) (hbase : base ≤ w.heap.size) :
    ∃ v' w', (Builtin.append_ #[t, t] ty #[.slice (some ⟨g, 0, none⟩) n cap, .slice (some ad) m c]).run P w = .ok v' w' ∧ w'.ownsRow base e 1 v' (n + m) (xs ++ (List.range m).map f) ∧ w.grownBy w' (some g) ∧
      (v'.ownBlock = some g ∨ v'.ownBlock = some w.heap.size) ∧ ∀ j u, xs[j]? = some u → w'.cell? ⟨g, j, none⟩ = some u := by
  have hcells : ∀ j u, ((List.range m).map f)[j]? = some u → w.cell? (ad.add j) = some u := by
    intro j u hu
    rcases Nat.eq_zero_or_pos m with h0 | h0
    · subst h0
      simp at hu
    · obtain ⟨b, off, h, _, hc⟩ := hsl h0
      injection h with h
      subst h
      rw [List.getElem?_map] at hu
      rcases Nat.lt_or_ge j m with hj | hj
      · rw [List.getElem?_range hj] at hu
        simp at hu
        subst hu
        have hadd : (⟨b, off, none⟩ : Addr).add j = ⟨b, off + j, none⟩ := by unfold Addr.add; split <;> simp_all
        rw [hadd]
        exact hc j hj
      · rw [List.getElem?_eq_none (by simpa using hj)] at hu
        cases hu
  have hone : ∀ u ∈ (List.range m).map f, u.oneCell' = true := by
    intro u hu; rw [List.mem_map] at hu; obtain ⟨j, hj, rfl⟩ := hu; exact h1 j (by simpa using hj)
  obtain ⟨v', w', hrun, h2, h3, h5⟩ := run_append_sl (P := P) (ty := ty) (c := c) he hown hsl h1 h63 hbytes hbase
  obtain ⟨ht, hz1, i, hi, hz, hs, hb⟩ := he
  subst hb
  have hold : ∀ j u, xs[j]? = some u → w.cell? ⟨g, j, none⟩ = some u := by
    intro j u hu
    have := hown.cells (g := g) rfl j u hu
    have hadd : (⟨g, 0, none⟩ : Addr).add j = ⟨g, j, none⟩ := by rw [show (⟨g, 0, none⟩ : Addr).add j = ⟨g, 0 + j, none⟩ from by unfold Addr.add; split <;> simp_all, Nat.zero_add]
    rwa [hadd] at this
  refine ⟨v', w', hrun, h2, h3, h5, ?_⟩
  have hl1 : ((List.range m).map f).length = m * i.size := by rw [hs]; simp
  by_cases hroom : n + m ≤ cap
  · rcases hown.2 with ⟨hn, rfl⟩ | ⟨g', cap', cur, hv, hbg, hg, hnc, hcm, hcs, htake⟩
    · cases hn
    · injection hv with hv1 hv2 hv3
      injection hv1 with hv1
      injection hv1 with hv1
      subst hv1
      subst hv3
      have hr := run_append_room (P := P) w t ty e i ht hi g n cap cur hg ad m c _ hl1 hcells hone hroom (by rw [hl1, hs, hcs]; omega)
      rw [hr] at hrun
      injection hrun with hv hw
      subst hv
      intro j u hu
      have hj : j < xs.length := (List.getElem?_eq_some_iff.1 hu).1
      have := h2.cells (g := g) rfl j u (by rw [List.getElem?_append_left hj]; exact hu)
      have hadd : (⟨g, 0, none⟩ : Addr).add j = ⟨g, j, none⟩ := by rw [show (⟨g, 0, none⟩ : Addr).add j = ⟨g, 0 + j, none⟩ from by unfold Addr.add; split <;> simp_all, Nat.zero_add]
      rwa [hadd] at this
  · have hr := run_append_grow (P := P) w t ty e i z ht hi hz ⟨g, 0, none⟩ n cap xs (by rw [hs]; exact hown.1) (hown.cells (g := g) rfl) ad m c _ hl1 hcells (by omega) (by simp only [maxLen] at h63; omega) (growslice_fits (by omega) hbytes)
    rw [hr] at hrun
    injection hrun with hv hw
    subst hw
    intro j u hu
    have h := hold j u hu
    exact (World.cell?_of_block (w := w.drew) (a := ⟨g, j, none⟩) (Below.heap_alloc _ _ _ (World.block_lt_of_cell? w.drew _ h))).trans h

theorem step_append_kept {ops : Array Oper} {o : Oper} {a : Act} {K : Act → World → Prop} {Q : Exit → Act → World → Prop} {E : Prop} (he : Elem1 P t e z bytes) (hgd : o.guard = none) (s x : Operand)
    (ho : o.op = .call { callee := .builtin .append, args := #[s, x], argTypes := #[t, t] }) (hs : a.eval s = .slice (some ⟨g, 0, none⟩) n cap) (hx : a.eval x = .slice (some ad) m c)
    (hown : w.ownsRow base e 1 (.slice (some ⟨g, 0, none⟩) n cap) n xs) (hsl : Sl w D (some ad) m f) (h1 : ∀ j, j < m → (f j).oneCell' = true)
    (h63 : n + m ≤ maxLen) (hbytes : (n + m) * bytes ≤ 140737488355328) (hbase : base ≤ w.heap.size)
    (h : ∀ v' w', w'.ownsRow base e 1 v' (n + m) (xs ++ (List.range m).map f) → w.grownBy w' (some g) → (v'.ownBlock = some g ∨ v'.ownBlock = some w.heap.size) → (∀ j u, xs[j]? = some u → w'.cell? ⟨g, j, none⟩ = some u) → K (a.put o.dst v') w') :
    if Region.wanted o (yielded ops a.tmps) = true then Oper.wp P o a w K Q else E := by
  have hw : Region.wanted o (yielded ops a.tmps) = true := by simp [Region.wanted, hgd]
  rw [if_pos hw]
  obtain ⟨v', w', hrun, h2, h3, h4, h5⟩ := run_append_kept (P := P) (ty := o.type) (c := c) he hown hsl h1 h63 hbytes hbase
  unfold Oper.wp execOp
  simp only [ho, resolve, invoke, builtin, Sem.run_bind, Sem.run_pure, Result.andThen_ok, List.map_toArray, List.map_cons, List.map_nil, hs, hx, hrun]
  exact h v' w' h2 h3 h4 h5
end
end Go.Proofs.Ytllmdgbaidkmfaa
