/-
  Texts of this proof, joined: Mem, Own, SgV, SgM, Reg, SgN, ErA, ErB, Args, VarPl.
-/
import Derived.Below
import Derived.Laws.OwnMore
import Derived.Deep.Draws
import Derived.Laws.Rows
import Derived.OwnWalk
import Derived.Maps.AppendAt
import Derived.RegionTactic
import Derived.Lib.Hide
import Derived.Test.YtopbbicjbjmdnaaGreatDoorProg
import Derived.Laws.Externs
import Derived.WalkKit
import Derived.WalkMore
import Derived.Laws.Closers25b
import Derived.Deep.DeepCutAuto
import Derived.Maps.Own
import Derived.Maps.OwnOps
import Derived.Maps.OwnSet
import Derived.Maps.RangeWalk
import Derived.Deep.RegionHeld3
import Derived.KernelRfl
import Derived.Deep.OwnRows
import Derived.Test.YtopbbicjbjmdnaaGreatDoorRows
import Derived.WalkSpells
import Derived.WalkLawsBesides
import Derived.Outline
import Derived.Deep.Cut
import Derived.LaidEql
import Derived.Stop.Asserts
import Derived.RowKitTokens
import Derived.Lib.IfaceEq
import Derived.ProofKit
import Derived.OpenShut
import Derived.Laws.BitsAllLaws
import Derived.Laws.BitsLemmas
namespace Go.Proofs.YtopbbicjbjmdnaaGreatDoor
open Go.RowKit

/-- w' is w but for the blocks of S, and for new ones. -/
structure Keeps (S : Nat → Prop) (w w' : World) : Prop where
  os : w'.os = w.os
  tape : w'.tape = w.tape
  output : w'.output = w.output
  size : w.heap.size ≤ w'.heap.size
  block : ∀ k, k < w.heap.size → ¬ S k → w'.heap[k]? = w.heap[k]?

namespace Keeps
variable {S T : Nat → Prop} {a b c w w' : World}
theorem refl (S : Nat → Prop) (w : World) : Keeps S w w := ⟨rfl, rfl, rfl, Nat.le_refl _, fun _ _ _ => rfl⟩
theorem trans (h : Keeps S a b) (k : Keeps T b c) (hT : ∀ x, x < a.heap.size → T x → S x) : Keeps S a c :=
  ⟨k.os.trans h.os, k.tape.trans h.tape, k.output.trans h.output, Nat.le_trans h.size k.size,
    fun i hi hn => (k.block i (Nat.lt_of_lt_of_le hi h.size) (fun ht => hn (hT i hi ht))).trans (h.block i hi hn)⟩
theorem trans' (h : Keeps S a b) (k : Keeps S b c) : Keeps S a c := h.trans k fun _ _ hx => hx
theorem mono (h : Keeps S a b) (hT : ∀ x, x < a.heap.size → S x → T x) : Keeps T a b :=
  ⟨h.os, h.tape, h.output, h.size, fun i hi hn => h.block i hi fun hs => hn (hT i hi hs)⟩
theorem drew (h : Keeps S a w) : Keeps S a w.drew := ⟨h.os, h.tape, h.output, h.size, h.block⟩
theorem drewN (h : Keeps S a w) (n : Nat) : Keeps S a (w.drewN n) := ⟨h.os, h.tape, h.output, h.size, h.block⟩
theorem alloc (h : Keeps S a w) (o : Obj) : Keeps S a (w.alloc o) :=
  h.trans (T := fun _ => False) ⟨rfl, rfl, rfl, by simp, fun k hk _ => Below.heap_alloc _ _ _ hk⟩ (fun _ _ hx => hx.elim)
theorem setCell (h : Keeps S a w) {p : Addr} (hp : p.block < a.heap.size → S p.block) (u : Value) : Keeps S a (w.setCell p u) :=
  h.trans (T := fun k => k = p.block) ⟨rfl, rfl, rfl, by simp [World.setCell], fun k _ hn => Below.heap_setCell _ _ _ _ hn⟩ (fun x hx hp' => by subst hp'; exact hp hx)
theorem grown {row : Option Nat} (h : Keeps S a w) (hg : w.grownBy w' row) (hr : ∀ k, row = some k → k < a.heap.size → S k) : Keeps S a w' :=
  h.trans (T := fun k => row = some k) ⟨hg.os, hg.tape, hg.output, hg.size, fun k hk hn => hg.block k hk (fun e => hn e.symm)⟩ (fun x hx e => hr x e hx)
theorem below (h : Keeps S a b) {B : Nat} (hB : B ≤ a.heap.size) (hS : ∀ k, k < B → ¬ S k) : Below B a b :=
  ⟨h.os, h.tape, h.output, h.size, fun k hk => h.block k (by omega) (hS k hk)⟩
theorem of_below (h : Below a.heap.size a b) : Keeps S a b := ⟨h.os, h.tape, h.output, h.size, fun k hk _ => h.block k hk⟩
theorem to_below (h : Keeps (fun _ => False) a b) : Below a.heap.size a b := h.below (Nat.le_refl _) fun _ _ hx => hx
end Keeps

/-- A slice of n elements of one cell each, that lie in a block of D: element j is f j. -/
def Sl (w : World) (D : Nat → Prop) (A : Option Addr) (n : Nat) (f : Nat → Value) : Prop :=
  0 < n → ∃ b off, A = some ⟨b, off, none⟩ ∧ D b ∧ ∀ j, j < n → w.cell? ⟨b, off + j, none⟩ = some (f j)

namespace Sl
variable {w w' : World} {D E : Nat → Prop} {A : Option Addr} {n m : Nat} {f g : Nat → Value}
theorem keep (h : Sl w D A n f) (hk : ∀ k, D k → k < w.heap.size → w'.heap[k]? = w.heap[k]?) : Sl w' D A n f := fun hn => by
  obtain ⟨b, off, e, hd, hc⟩ := h hn
  have hlt : b < w.heap.size := World.block_lt_of_cell? w _ (hc 0 hn)
  exact ⟨b, off, e, hd, fun j hj => (World.cell?_of_block (w := w) (a := ⟨b, off + j, none⟩) (hk b hd hlt)).trans (hc j hj)⟩
theorem keeps {S : Nat → Prop} (h : Sl w D A n f) (hk : Keeps S w w') (hd : ∀ k, D k → ¬ S k) : Sl w' D A n f :=
  h.keep fun k hD hlt => hk.block k hlt (hd k hD)
theorem below {B : Nat} (h : Sl w D A n f) (hk : Below B w w') (hd : ∀ k, D k → k < w.heap.size → k < B) : Sl w' D A n f :=
  h.keep fun k hD hlt => hk.block k (hd k hD hlt)
theorem mono (h : Sl w D A n f) (hd : ∀ k, D k → E k) : Sl w E A n f := fun hn => by
  obtain ⟨b, off, e, hD, hc⟩ := h hn
  exact ⟨b, off, e, hd b hD, hc⟩
theorem take (h : Sl w D A n f) (hm : m ≤ n) : Sl w D A m f := fun hn => by
  obtain ⟨b, off, e, hD, hc⟩ := h (by omega)
  exact ⟨b, off, e, hD, fun j hj => hc j (by omega)⟩
theorem congr (h : Sl w D A n f) (hf : ∀ j, j < n → f j = g j) : Sl w D A n g := fun hn => by
  obtain ⟨b, off, e, hD, hc⟩ := h hn
  exact ⟨b, off, e, hD, fun j hj => (hc j hj).trans (by rw [hf j hj])⟩
theorem nil (w : World) (D : Nat → Prop) (A : Option Addr) (f : Nat → Value) : Sl w D A 0 f := fun h => absurd h (by omega)
theorem of_own {base : Nat} {e : TypeId} {c : Nat} {xs : List Value} (h : w.ownsRow base e 1 (.slice A n c) n xs) (hf : ∀ j u, xs[j]? = some u → u = f j) :
    Sl w (fun k => (Value.slice A n c).ownBlock = some k) A n f := fun hn => by
  obtain ⟨g, hA⟩ : ∃ g, A = some ⟨g, 0, none⟩ := by
    rcases h.2 with ⟨_, h0⟩ | ⟨g, _, _, hv, _⟩
    · omega
    · exact ⟨g, by injection hv⟩
  subst hA
  refine ⟨g, 0, rfl, rfl, fun j hj => ?_⟩
  have hl : j < xs.length := by have := h.1; omega
  have := h.cells (g := g) rfl j xs[j] (List.getElem?_eq_getElem hl)
  rw [hf j xs[j] (List.getElem?_eq_getElem hl)] at this
  have hadd : (⟨g, 0, none⟩ : Addr).add j = ⟨g, 0 + j, none⟩ := by unfold Addr.add; split <;> simp_all
  rw [hadd] at this
  exact this
end Sl

/-- Block g is just the cells cs of type t, none frozen. -/
def Blk (w : World) (g : Nat) (t : TypeId) (cs : Array Value) : Prop := w.heap[g]? = some (.cells cs t (0, 0))

namespace Blk
variable {w w' : World} {g : Nat} {t : TypeId} {cs : Array Value}
theorem lt (h : Blk w g t cs) : g < w.heap.size := by
  rcases Nat.lt_or_ge g w.heap.size with hlt | hge
  · exact hlt
  · unfold Blk at h; rw [Array.getElem?_eq_none hge] at h; cases h
theorem cell (h : Blk w g t cs) (i : Nat) : w.cell? ⟨g, i, none⟩ = cs[i]? := cell_of_row w g i cs t (0, 0) h
theorem frozen (h : Blk w g t cs) (i : Nat) : w.frozen? ⟨g, i, none⟩ = false := by
  unfold Blk at h
  simp [World.frozen?, h]
theorem fresh (w : World) (t : TypeId) (cs : Array Value) : Blk (w.alloc (.cells cs t)) w.heap.size t cs := heap_alloc_new w _
theorem drew (h : Blk w g t cs) : Blk w.drew g t cs := h
theorem drewN (h : Blk w g t cs) (n : Nat) : Blk (w.drewN n) g t cs := h
theorem alloc (h : Blk w g t cs) (o : Obj) : Blk (w.alloc o) g t cs := (Below.heap_alloc w o g h.lt).trans h
theorem set (h : Blk w g t cs) (i : Nat) (u : Value) : Blk (w.setCell ⟨g, i, none⟩ u) g t (cs.setIfInBounds i u) := by
  unfold Blk at h ⊢
  simp [World.setCell, Array.getElem?_modify, h]
theorem far (h : Blk w g t cs) {p : Addr} (hp : g ≠ p.block) (u : Value) : Blk (w.setCell p u) g t cs := (Below.heap_setCell w p u g hp).trans h
theorem keeps {S : Nat → Prop} (h : Blk w g t cs) (hk : Keeps S w w') (hg : ¬ S g) : Blk w' g t cs := (hk.block g h.lt hg).trans h
theorem below {B : Nat} (h : Blk w g t cs) (hb : Below B w w') (hg : g < B) : Blk w' g t cs := (hb.block g hg).trans h
theorem ne {g' : Nat} {t' : TypeId} {cs' : Array Value} (h : Blk w g t cs) (h' : Blk w g' t' cs') (hne : t ≠ t') : g ≠ g' := by
  rintro rfl
  unfold Blk at h h'
  rw [h] at h'
  injection h' with h'
  injection h' with _ ht
  exact hne ht
end Blk

/-- An owned row lies in another block than one of another type. -/
theorem own_ne {w : World} {base : Nat} {e t : TypeId} {size n g : Nat} {v : Value} {xs : List Value} {cs : Array Value} (h : w.ownsRow base e size v n xs) (hg : Blk w g t cs) (hne : e ≠ t) : v.ownBlock ≠ some g := by
  rcases h.2 with ⟨rfl, _⟩ | ⟨g', cap, cur, rfl, _, hh, _⟩
  · simp [Value.ownBlock]
  · intro he
    have : g' = g := by simpa [Value.ownBlock] using he
    subst this
    exact Blk.ne (t := e) hh hg hne rfl

/-- Behind a law that leaves 'grownBy': an owned row that was not the one. -/
theorem own_keeps {w w' : World} {S : Nat → Prop} {base : Nat} {e : TypeId} {size n : Nat} {v : Value} {xs : List Value} (h : w.ownsRow base e size v n xs) (hk : Keeps S w w') (hne : ∀ g, v.ownBlock = some g → ¬ S g) : w'.ownsRow base e size v n xs := by
  refine ⟨h.1, ?_⟩
  rcases h.2 with hn | ⟨g, cap, cur, rfl, hb, hgg, rest⟩
  · exact .inl hn
  · refine .inr ⟨g, cap, cur, rfl, hb, ?_, rest⟩
    rw [hk.block g (Array.getElem?_eq_some_iff.1 hgg).1 (hne g rfl)]
    exact hgg
theorem own_base {w : World} {base base' : Nat} {e : TypeId} {size n : Nat} {v : Value} {xs : List Value} (h : w.ownsRow base e size v n xs) (hb : base' ≤ base) : w.ownsRow base' e size v n xs := by
  refine ⟨h.1, ?_⟩
  rcases h.2 with hn | ⟨g, cap, cur, rfl, hb', rest⟩
  · exact .inl hn
  · exact .inr ⟨g, cap, cur, rfl, by omega, rest⟩

theorem own_form {w : World} {base : Nat} {e : TypeId} {size n : Nat} {v : Value} {xs : List Value} (h : w.ownsRow base e size v n xs) : ∃ A c, v = .slice A n c ∧ n ≤ c ∧ (0 < n → ∃ g, A = some ⟨g, 0, none⟩ ∧ base ≤ g ∧ g < w.heap.size) := by
  rcases h.2 with ⟨rfl, rfl⟩ | ⟨g, cap, cur, rfl, hb, hgg, hc, rest⟩
  · exact ⟨none, 0, rfl, Nat.le_refl _, fun h => absurd h (by omega)⟩
  · exact ⟨_, _, rfl, hc, fun _ => ⟨g, rfl, hb, (Array.getElem?_eq_some_iff.1 hgg).1⟩⟩

/-- What the table says of a slice type t and its element type e, of one cell. -/
def Elem1 (P : Program) (t e : TypeId) (z : Value) (bytes : Nat) : Prop :=
  P.underlying t = some (.slice e) ∧ z.cells.size = 1 ∧ ∃ i, P.info? e = some i ∧ i.zero = some z ∧ i.size = 1 ∧ i.bytes = bytes

theorem Elem1.mk' {P : Program} {t e : TypeId} {z : Value} {bytes : Nat} (ht : P.underlying t = some (.slice e)) (hz : z.cells.size = 1) (h : (P.info? e).map (fun i => (i.zero, i.size, i.bytes)) = some (some z, 1, bytes)) : Elem1 P t e z bytes := by
  obtain ⟨i, hi, h0, h1, h2⟩ := info_parts h
  exact ⟨ht, hz, i, hi, h0, h1, h2⟩

section
variable {P : Program} {w : World} {t e ty : TypeId} {z : Value} {bytes base n m c : Nat} {v : Value} {xs : List Value} {D : Nat → Prop} {A : Option Addr} {f : Nat → Value}

theorem run_append_sl (he : Elem1 P t e z bytes) (hown : w.ownsRow base e 1 v n xs) (hsl : Sl w D A m f) (h1 : ∀ j, j < m → (f j).oneCell' = true)
    (h63 : n + m ≤ maxLen) (hbytes : (n + m) * bytes ≤ 140737488355328) (hbase : base ≤ w.heap.size) :
    ∃ v' w', (Builtin.append_ #[t, t] ty #[v, .slice A m c]).run P w = .ok v' w' ∧ w'.ownsRow base e 1 v' (n + m) (xs ++ (List.range m).map f) ∧ w.grownBy w' v.ownBlock ∧
      (v'.ownBlock = v.ownBlock ∨ v'.ownBlock = some w.heap.size) := by
  obtain ⟨ht, hz1, i, hi, hz, hs, hb⟩ := he
  rcases A with _ | ad
  · have hm : m = 0 := by
      rcases Nat.eq_zero_or_pos m with h0 | h0
      · exact h0
      · obtain ⟨b, off, h, _⟩ := hsl h0
        cases h
    subst hm
    refine ⟨v, w, ?_, by simpa using hown, World.grownBy.refl w _, .inl rfl⟩
    rcases hown.2 with ⟨rfl, rfl⟩ | ⟨g, cap, cur, rfl, _, _, hnc, _⟩
    · simp [Builtin.append_, run_underlying ht, sizeOf, typeInfo, hi, Builtin.lenOf, Builtin.firstCells]
    · simp [Builtin.append_, run_underlying ht, sizeOf, typeInfo, hi, Builtin.lenOf, Builtin.firstCells, hnc, storeCells]
  · have hcells : ∀ j u, ((List.range m).map f)[j]? = some u → w.cell? (ad.add j) = some u := by
      intro j u hu
      rcases Nat.eq_zero_or_pos m with h0 | h0
      · subst h0
        simp at hu
      · obtain ⟨b, off, h, _, hc⟩ := hsl h0
        injection h with h
        subst h
        rw [List.getElem?_map] at hu
        rcases Nat.lt_or_ge j m with hj | hj
        · rw [List.getElem?_range hj] at hu
          simp at hu
          subst hu
          have hadd : (⟨b, off, none⟩ : Addr).add j = ⟨b, off + j, none⟩ := by unfold Addr.add; split <;> simp_all
          rw [hadd]
          exact hc j hj
        · rw [List.getElem?_eq_none (by simpa using hj)] at hu
          cases hu
    obtain ⟨v', w', hrun, h2, h3, _, h5⟩ := run_append_own_at (P := P) w base t ty e i z 1 bytes ht hi hz hs hb hz1 (by omega) v n xs hown ad m c ((List.range m).map f) (by simp) hcells
      (by intro u hu; rw [List.mem_map] at hu; obtain ⟨j, hj, rfl⟩ := hu; exact h1 j (by simpa using hj)) h63 hbytes hbase
    exact ⟨v', w', hrun, h2, h3, h5⟩

theorem wp_append_sl {o : Oper} {a : Act} {K : Act → World → Prop} {Q : Exit → Act → World → Prop} (he : Elem1 P t e z bytes) (s x : Operand)
    (ho : o.op = .call { callee := .builtin .append, args := #[s, x], argTypes := #[t, t] }) (hs : a.eval s = v) (hx : a.eval x = .slice A m c)
    (hown : w.ownsRow base e 1 v n xs) (hsl : Sl w D A m f) (h1 : ∀ j, j < m → (f j).oneCell' = true)
    (h63 : n + m ≤ maxLen) (hbytes : (n + m) * bytes ≤ 140737488355328) (hbase : base ≤ w.heap.size)
    (h : ∀ v' w', w'.ownsRow base e 1 v' (n + m) (xs ++ (List.range m).map f) → w.grownBy w' v.ownBlock → (v'.ownBlock = v.ownBlock ∨ v'.ownBlock = some w.heap.size) → K (a.put o.dst v') w') : o.wp P a w K Q := by
  obtain ⟨v', w', hrun, h2, h3, h4⟩ := run_append_sl (P := P) (ty := o.type) (c := c) he hown hsl h1 h63 hbytes hbase
  unfold Oper.wp execOp
  simp only [ho, resolve, invoke, builtin, Sem.run_bind, Sem.run_pure, Result.andThen_ok, List.map_toArray, List.map_cons, List.map_nil, hs, hx, hrun]
  exact h v' w' h2 h3 h4

theorem wpList_append_sl {ops : Array Oper} {rest : List Oper} {o : Oper} {a : Act} {Q : Exit → Act → World → Prop} (he : Elem1 P t e z bytes) (hgd : o.guard = none) (s x : Operand)
    (ho : o.op = .call { callee := .builtin .append, args := #[s, x], argTypes := #[t, t] }) (hs : a.eval s = v) (hx : a.eval x = .slice A m c)
    (hown : w.ownsRow base e 1 v n xs) (hsl : Sl w D A m f) (h1 : ∀ j, j < m → (f j).oneCell' = true)
    (h63 : n + m ≤ maxLen) (hbytes : (n + m) * bytes ≤ 140737488355328) (hbase : base ≤ w.heap.size)
    (h : ∀ v' w', w'.ownsRow base e 1 v' (n + m) (xs ++ (List.range m).map f) → w.grownBy w' v.ownBlock → (v'.ownBlock = v.ownBlock ∨ v'.ownBlock = some w.heap.size) → wpList P ops Q rest (a.put o.dst v') w') : wpList P ops Q (o :: rest) a w :=
  wpList_plain hgd fun _ hK => wp_append_sl he s x ho hs hx hown hsl h1 h63 hbytes hbase fun v' w' h2 h3 h4 => hK _ _ (h v' w' h2 h3 h4)

theorem step_append_sl {ops : Array Oper} {o : Oper} {a : Act} {K : Act → World → Prop} {Q : Exit → Act → World → Prop} {E : Prop} (he : Elem1 P t e z bytes) (hgd : o.guard = none) (s x : Operand)
    (ho : o.op = .call { callee := .builtin .append, args := #[s, x], argTypes := #[t, t] }) (hs : a.eval s = v) (hx : a.eval x = .slice A m c)
    (hown : w.ownsRow base e 1 v n xs) (hsl : Sl w D A m f) (h1 : ∀ j, j < m → (f j).oneCell' = true)
    (h63 : n + m ≤ maxLen) (hbytes : (n + m) * bytes ≤ 140737488355328) (hbase : base ≤ w.heap.size)
    (h : ∀ v' w', w'.ownsRow base e 1 v' (n + m) (xs ++ (List.range m).map f) → w.grownBy w' v.ownBlock → (v'.ownBlock = v.ownBlock ∨ v'.ownBlock = some w.heap.size) → K (a.put o.dst v') w') :
    if Region.wanted o (yielded ops a.tmps) = true then Oper.wp P o a w K Q else E := by
  have hw : Region.wanted o (yielded ops a.tmps) = true := by simp [Region.wanted, hgd]
  rw [if_pos hw]
  exact wp_append_sl he s x ho hs hx hown hsl h1 h63 hbytes hbase h
end

/-- A new block of one cell is a slice of one element. -/
theorem sl_one (w : World) (t : TypeId) (u : Value) : Sl (w.alloc (.cells #[u] t)) (fun k => k = w.heap.size) (some ⟨w.heap.size, 0, none⟩) 1 (fun _ => u) := fun _ =>
  ⟨_, _, rfl, rfl, fun j hj => by
    obtain rfl : j = 0 := by omega
    rw [(Blk.fresh w t #[u]).cell (0 + 0)]
    rfl⟩
end Go.Proofs.YtopbbicjbjmdnaaGreatDoor
namespace Go.Proofs.YtopbbicjbjmdnaaGreatDoor
open Go.RowKit
theorem perm_front {α : Type} : ∀ (L : List α) (i : Nat) (h : i < L.length), L.Perm (L[i] :: L.eraseIdx i)
  | _ :: _, 0, _ => List.Perm.refl _
  | a :: l, i + 1, h => ((perm_front l i (by simpa using h)).cons a).trans (List.Perm.swap _ _ _)
/-- w is w0 but for new blocks; those of L (number, type, cells), no two of one number, are known whole. -/
structure Own (w0 : World) (L : List (Nat × TypeId × Array Value)) (w : World) : Prop where
  bel : Below w0.heap.size w0 w
  blk : ∀ b ∈ L, w0.heap.size ≤ b.1 ∧ Blk w b.1 b.2.1 b.2.2
  nd : L.Pairwise (fun a b => a.1 ≠ b.1)
namespace Own
variable {w0 w w' : World} {L : List (Nat × TypeId × Array Value)} {g : Nat} {t : TypeId} {cs : Array Value}
theorem start (w : World) : Own w [] w := ⟨Below.refl _ _, fun _ h => (List.not_mem_nil h).elim, List.Pairwise.nil⟩
theorem lt (h : Own w0 L w) : ∀ b ∈ L, b.1 < w.heap.size := fun b hb => (h.blk b hb).2.lt
theorem size (h : Own w0 L w) : w0.heap.size ≤ w.heap.size := h.bel.size
theorem alloc (h : Own w0 L w) (hg : g = w.heap.size) (t : TypeId) (cs : Array Value) : Own w0 (L ++ [(g, t, cs)]) (w.alloc (.cells cs t)) := by
  subst hg
  refine ⟨h.bel.alloc h.bel.size _, ?_, ?_⟩
  · intro b hb
    rcases List.mem_append.1 hb with hb | hb
    · exact ⟨(h.blk b hb).1, (h.blk b hb).2.alloc _⟩
    · obtain rfl := List.mem_singleton.1 hb
      exact ⟨h.bel.size, Blk.fresh _ _ _⟩
  · refine List.pairwise_append.2 ⟨h.nd, List.pairwise_singleton _ _, ?_⟩
    intro a ha b hb
    obtain rfl := List.mem_singleton.1 hb
    exact Nat.ne_of_lt (h.lt a ha)
theorem call (h : Own w0 L w) (hb : Below w.heap.size w w') : Own w0 L w' :=
  ⟨h.bel.trans (hb.mono h.bel.size), fun b hm => ⟨(h.blk b hm).1, (h.blk b hm).2.below hb (h.lt b hm)⟩, h.nd⟩
theorem drew (h : Own w0 L w) : Own w0 L w.drew := h.call (Below.refl _ _).drew
theorem drewN (h : Own w0 L w) (n : Nat) : Own w0 L (w.drewN n) := h.call ((Keeps.refl (fun _ => False) w).drewN n).to_below
theorem cell (h : Own w0 L w) (i j : Nat) {v : Value} (hi : L[i]? = some (g, t, cs)) (hj : cs.toList[j]? = some v) : w.cell? ⟨g, j, none⟩ = some v := by
  have hb := (h.blk _ (List.mem_of_getElem? hi)).2
  rw [hb.cell j, ← Array.getElem?_toList]
  exact hj
theorem free (h : Own w0 L w) (i : Nat) (hi : L[i]? = some (g, t, cs)) : ∀ j, w.frozen? ⟨g, j, none⟩ = false :=
  ((h.blk _ (List.mem_of_getElem? hi)).2).frozen
theorem get (h : Own w0 L w) (i : Nat) (hi : L[i]? = some (g, t, cs)) : Blk w g t cs := (h.blk _ (List.mem_of_getElem? hi)).2
theorem geq (h : Own w0 L w) (i : Nat) (hi : L[i]? = some (g, t, cs)) : w0.heap.size ≤ g := (h.blk _ (List.mem_of_getElem? hi)).1
theorem ne (h : Own w0 L w) {i j g' : Nat} {t' : TypeId} {cs' : Array Value} (hi : L[i]? = some (g, t, cs)) (hj : L[j]? = some (g', t', cs')) (hij : i ≠ j) : g ≠ g' := by
  have hl := List.getElem?_eq_some_iff.1 hi
  have hl' := List.getElem?_eq_some_iff.1 hj
  obtain ⟨hi1, hi2⟩ := hl
  obtain ⟨hj1, hj2⟩ := hl'
  have hp := List.pairwise_iff_getElem.1 h.nd
  rcases Nat.lt_or_gt_of_ne hij with hlt | hlt
  · have := hp i j hi1 hj1 hlt
    rw [hi2, hj2] at this
    exact this
  · have := hp j i hj1 hi1 hlt
    rw [hi2, hj2] at this
    exact fun e => this e.symm
theorem set (h : Own w0 L w) (i j : Nat) (hi : L[i]? = some (g, t, cs)) (v : Value) : Own w0 (L.set i (g, t, cs.setIfInBounds j v)) (w.setCell ⟨g, j, none⟩ v) := by
  refine ⟨h.bel.setCell (p := ⟨g, j, none⟩) (h.geq i hi) v, ?_, ?_⟩
  · intro b hb
    obtain ⟨k, hk⟩ := List.mem_iff_getElem?.1 hb
    by_cases hki : i = k
    · subst hki
      have hlen : i < L.length := (List.getElem?_eq_some_iff.1 hi).1
      rw [List.getElem?_set_self hlen] at hk
      injection hk with hk
      subst hk
      exact ⟨h.geq i hi, (h.get i hi).set j v⟩
    · rw [List.getElem?_set_ne hki] at hk
      obtain ⟨g', t', cs'⟩ := b
      exact ⟨h.geq k hk, (h.get k hk).far (p := ⟨g, j, none⟩) (h.ne hk hi (fun e => hki e.symm)) v⟩
  · have e : (L.set i (g, t, cs.setIfInBounds j v)).map (fun a => a.1) = L.map (fun a => a.1) := by
      apply List.ext_getElem?
      intro k
      rw [List.getElem?_map, List.getElem?_map]
      by_cases hki : i = k
      · subst hki
        have hlen : i < L.length := (List.getElem?_eq_some_iff.1 hi).1
        rw [List.getElem?_set_self hlen, hi]
        rfl
      · rw [List.getElem?_set_ne hki]
    have h1 : (L.map (fun a => a.1)).Pairwise (· ≠ ·) := List.pairwise_map.2 h.nd
    rw [← e] at h1
    exact List.pairwise_map.1 h1
theorem sub {M : List (Nat × TypeId × Array Value)} (h : Own w0 L w) (hs : M.Sublist L) : Own w0 M w := ⟨h.bel, fun b hb => h.blk b (hs.subset hb), h.nd.sublist hs⟩
theorem take (h : Own w0 L w) (n : Nat) : Own w0 (L.take n) w := h.sub (List.take_sublist n L)
theorem front (h : Own w0 L w) (i : Nat) {b : Nat × TypeId × Array Value} (hi : L[i]? = some b) : Own w0 (b :: L.eraseIdx i) w := by
  obtain ⟨hl, rfl⟩ := List.getElem?_eq_some_iff.1 hi
  have hp : L.Perm (L[i] :: L.eraseIdx i) := perm_front L i hl
  exact ⟨h.bel, fun b hb => h.blk b (hp.mem_iff.2 hb), (hp.pairwise_iff (fun e e' => e e'.symm)).1 h.nd⟩
theorem keeps (h : Own w0 L w) : Keeps (fun _ => False) w0 w := Keeps.of_below h.bel
theorem own1 (w : World) {x : Nat} (hx : x = w.heap.size) (t : TypeId) (c : Array Value) : Own w [(x, t, c)] (w.alloc (.cells c t)) := (start w).alloc hx t c
theorem own2 (w : World) {x : Nat} (hx : x = w.heap.size) (t : TypeId) (c : Array Value) (t1 : TypeId) (c1 : Array Value) : Own w [(x, t, c), (x + 1, t1, c1)] ((w.alloc (.cells c t)).alloc (.cells c1 t1)) :=
  (own1 w hx t c).alloc (by simp [hx]) t1 c1
theorem own3 (w : World) {x : Nat} (hx : x = w.heap.size) (t : TypeId) (c : Array Value) (t1 : TypeId) (c1 : Array Value) (t2 : TypeId) (c2 : Array Value) :
    Own w [(x, t, c), (x + 1, t1, c1), (x + 1 + 1, t2, c2)] (((w.alloc (.cells c t)).alloc (.cells c1 t1)).alloc (.cells c2 t2)) :=
  (own2 w hx t c t1 c1).alloc (by simp [hx]) t2 c2
theorem own4 (w : World) {x : Nat} (hx : x = w.heap.size) (t : TypeId) (c : Array Value) (t1 : TypeId) (c1 : Array Value) (t2 : TypeId) (c2 : Array Value) (t3 : TypeId) (c3 : Array Value) :
    Own w [(x, t, c), (x + 1, t1, c1), (x + 1 + 1, t2, c2), (x + 1 + 1 + 1, t3, c3)] ((((w.alloc (.cells c t)).alloc (.cells c1 t1)).alloc (.cells c2 t2)).alloc (.cells c3 t3)) :=
  (own3 w hx t c t1 c1 t2 c2).alloc (by simp [hx]) t3 c3
end Own
/-- The cells of block g from k on are written, one behind the other. -/
def setFrom (w : World) (g k : Nat) : List Value → World
  | [] => w
  | v :: vs => setFrom (w.setCell ⟨g, k, none⟩ v) g (k + 1) vs
def setArr (cs : Array Value) (k : Nat) : List Value → Array Value
  | [] => cs
  | v :: vs => setArr (cs.setIfInBounds k v) (k + 1) vs
theorem setArr_size : ∀ (vs : List Value) (k : Nat) (cs : Array Value), (setArr cs k vs).size = cs.size
  | [], _, _ => rfl
  | v :: vs, k, cs => by unfold setArr; rw [setArr_size vs]; simp
theorem setArr_low : ∀ (vs : List Value) (k : Nat) (cs : Array Value) (i : Nat), i < k → (setArr cs k vs)[i]? = cs[i]?
  | [], _, _, _, _ => rfl
  | v :: vs, k, cs, i, h => by
    unfold setArr
    rw [setArr_low vs (k + 1) _ i (by omega), Array.getElem?_setIfInBounds]
    rw [if_neg (by omega)]
theorem setArr_get : ∀ (vs : List Value) (k : Nat) (cs : Array Value) (i : Nat), k + vs.length ≤ cs.size → (setArr cs k vs)[k + i]? = if i < vs.length then vs[i]? else cs[k + i]?
  | [], _, _, _, _ => by simp [setArr]
  | v :: vs, k, cs, 0, h => by
    unfold setArr
    simp at h
    rw [setArr_low vs (k + 1) _ (k + 0) (by omega), Array.getElem?_setIfInBounds]
    simp
    omega
  | v :: vs, k, cs, i + 1, h => by
    unfold setArr
    simp at h
    have := setArr_get vs (k + 1) (cs.setIfInBounds k v) i (by simp; omega)
    have e : k + (i + 1) = k + 1 + i := by omega
    rw [e, this]
    simp only [List.length_cons, Nat.add_lt_add_iff_right, List.getElem?_cons_succ]
    have e2 : (cs.setIfInBounds k v)[k + 1 + i]? = cs[k + 1 + i]? := by rw [Array.getElem?_setIfInBounds, if_neg (show ¬ k = k + 1 + i by omega)]
    rw [e2]
theorem Own.setFrom_own {w0 : World} {L : List (Nat × TypeId × Array Value)} {g : Nat} {t : TypeId} : ∀ (vs : List Value) (k : Nat) (w : World) (cs : Array Value), Own w0 ((g, t, cs) :: L) w → Own w0 ((g, t, setArr cs k vs) :: L) (setFrom w g k vs)
  | [], _, _, _, h => h
  | v :: vs, k, _, _, h => Own.setFrom_own vs (k + 1) _ _ (h.set 0 k rfl v)
/-- .. and block g, of n cells, may be written. -/
def OwnR (w0 : World) (g : Nat) (t : TypeId) (n : Nat) (L : List (Nat × TypeId × Array Value)) (w : World) : Prop := ∃ cs : Array Value, cs.size = n ∧ Own w0 ((g, t, cs) :: L) w
namespace OwnR
variable {w0 w w' : World} {L : List (Nat × TypeId × Array Value)} {g n : Nat} {t : TypeId} {cs : Array Value}
theorem of (h : Own w0 ((g, t, cs) :: L) w) (hn : cs.size = n) : OwnR w0 g t n L w := ⟨cs, hn, h⟩
theorem call (h : OwnR w0 g t n L w) (hb : Below w.heap.size w w') : OwnR w0 g t n L w' := by
  obtain ⟨cs, hn, ho⟩ := h
  exact ⟨cs, hn, ho.call hb⟩
theorem rest (h : OwnR w0 g t n L w) : Own w0 L w := by
  obtain ⟨cs, hn, ho⟩ := h
  exact ho.sub (List.sublist_cons_self _ _)
theorem put (h : OwnR w0 g t n L w) (vs : List Value) (hl : vs.length = n) : Own w0 ((g, t, vs.toArray) :: L) (setFrom w g 0 vs) := by
  obtain ⟨cs, hn, ho⟩ := h
  have := Own.setFrom_own vs 0 w cs ho
  have e : setArr cs 0 vs = vs.toArray := by
    apply Array.ext
    · rw [setArr_size]; simp [hn, hl]
    · intro i h1 h2
      have h3 : i < vs.length := by simpa using h2
      have := setArr_get vs 0 cs i (by omega)
      rw [Nat.zero_add, Array.getElem?_eq_getElem h1, if_pos h3, List.getElem?_eq_getElem h3] at this
      exact Option.some.inj this
  rw [e] at this
  exact this
theorem one (h : OwnR w0 g t 1 L w) : ∃ a, Own w0 ((g, t, #[a]) :: L) w := by
  obtain ⟨⟨cs⟩, hn, ho⟩ := h
  obtain _ | ⟨a, _ | ⟨b, cs⟩⟩ := cs <;> simp at hn
  exact ⟨a, ho⟩
theorem two (h : OwnR w0 g t 2 L w) : ∃ a b, Own w0 ((g, t, #[a, b]) :: L) w := by
  obtain ⟨⟨cs⟩, hn, ho⟩ := h
  obtain _ | ⟨a, _ | ⟨b, _ | ⟨c, cs⟩⟩⟩ := cs <;> simp at hn
  exact ⟨a, b, ho⟩
theorem three (h : OwnR w0 g t 3 L w) : ∃ a b c, Own w0 ((g, t, #[a, b, c]) :: L) w := by
  obtain ⟨⟨cs⟩, hn, ho⟩ := h
  obtain _ | ⟨a, _ | ⟨b, _ | ⟨c, _ | ⟨d, cs⟩⟩⟩⟩ := cs <;> simp at hn
  exact ⟨a, b, c, ho⟩
theorem eight (h : OwnR w0 g t 8 L w) : ∃ a b c d e f i j, Own w0 ((g, t, #[a, b, c, d, e, f, i, j]) :: L) w := by
  obtain ⟨⟨cs⟩, hn, ho⟩ := h
  obtain _ | ⟨a, _ | ⟨b, _ | ⟨c, _ | ⟨d, _ | ⟨e, _ | ⟨f, _ | ⟨i, _ | ⟨j, _ | ⟨k, cs⟩⟩⟩⟩⟩⟩⟩⟩⟩ := cs <;> simp at hn
  exact ⟨a, b, c, d, e, f, i, j, ho⟩
theorem eleven (h : OwnR w0 g t 11 L w) : ∃ a b c d e f i j k l m, Own w0 ((g, t, #[a, b, c, d, e, f, i, j, k, l, m]) :: L) w := by
  obtain ⟨⟨cs⟩, hn, ho⟩ := h
  obtain _ | ⟨a, _ | ⟨b, _ | ⟨c, _ | ⟨d, _ | ⟨e, _ | ⟨f, _ | ⟨i, _ | ⟨j, _ | ⟨k, _ | ⟨l, _ | ⟨m, _ | ⟨o, cs⟩⟩⟩⟩⟩⟩⟩⟩⟩⟩⟩⟩ := cs <;> simp at hn
  exact ⟨a, b, c, d, e, f, i, j, k, l, m, ho⟩
theorem seventeen (h : OwnR w0 g t 17 L w) : ∃ a b c d e f i j k l m n o p q r s, Own w0 ((g, t, #[a, b, c, d, e, f, i, j, k, l, m, n, o, p, q, r, s]) :: L) w := by
  obtain ⟨⟨cs⟩, hn, ho⟩ := h
  obtain _ | ⟨a, _ | ⟨b, _ | ⟨c, _ | ⟨d, _ | ⟨e, _ | ⟨f, _ | ⟨i, _ | ⟨j, _ | ⟨k, _ | ⟨l, _ | ⟨m, _ | ⟨n, _ | ⟨o, _ | ⟨p, _ | ⟨q, _ | ⟨r, _ | ⟨s, _ | ⟨u, cs⟩⟩⟩⟩⟩⟩⟩⟩⟩⟩⟩⟩⟩⟩⟩⟩⟩⟩ := cs <;> simp at hn
  exact ⟨a, b, c, d, e, f, i, j, k, l, m, n, o, p, q, r, s, ho⟩
end OwnR
end Go.Proofs.YtopbbicjbjmdnaaGreatDoor
namespace Go.Proofs.YtopbbicjbjmdnaaGreatDoor
open Go.RowKit
set_option maxRecDepth 100000
set_option linter.unusedVariables false
set_option linter.unusedSimpArgs false
/-- The signs that a name may have. -/
def marks : ByteArray := { data := #[95, 46, 45, 58, 47, 61, 44] }
def chA (c : Nat) : Bool := (decide (97 ≤ bits .or .u8 (c : Int) 32) && decide (bits .or .u8 (c : Int) 32 ≤ 122)) || ((decide (48 ≤ (c : Int)) && decide ((c : Int) ≤ 57)) || decide (0 ≤ firstIdx marks ((c : Int).toNat.toUInt8)))
theorem index_call (c : Int) (w : World) : (callFunc 100 #[.string marks, .int .u8 c]).run Tryz.prog w = .ok (.value (.int .i64 (firstIdx marks c.toNat.toUInt8))) w := by
  rw [run_callFunc_extern Tryz.func100 (by kernel_rfl) (by kernel_rfl) (by kernel_rfl) (e := Extern.BytealgIndexByte.indexByte) (by kernel_rfl), run_indexByte_string]
  rfl
set_option maxHeartbeats 400000 in
theorem indexByte_any (c : Int) (w : World) : Calls Tryz.prog 72 #[.string marks, .int .u8 c] w fun e w' => e = .returned (.int .i64 (firstIdx marks c.toNat.toUInt8)) ∧ Below w.heap.size w w' := by
  have h := index_call c
  have h1 : ∀ w, Calls Tryz.prog 93 #[.string marks, .int .u8 c] w fun e w' => e = .returned (.int .i64 (firstIdx marks c.toNat.toUInt8)) ∧ Below w.heap.size w w' := by
    intro w
    go_enter Tryz.func93, Tryz.ntmps93
    go_wp2_with fail
    go_ret
    exact ⟨rfl, Below.refl _ _⟩
  clear h
  go_enter Tryz.func72, Tryz.ntmps72
  go_wp2_with fail
  refine (h1 _).mono ?_
  rintro e w1 ⟨rfl, hb⟩
  have HB := Lib.hid hb
  clear hb h1
  go_wp2_with fail
  go_ret
  exact ⟨rfl, HB.out⟩
theorem below_join' {w wr w1 : World} (h : Below w.heap.size w wr) (hb : Below wr.heap.size wr w1) : Below w.heap.size w w1 := ((Own.start w).call h).call hb |>.bel
def nameOk (s : ByteArray) : Bool := (List.range s.size).all (fun j => chA (s[j]!).toNat) && (decide (1 ≤ s.size) && decide (s.size ≤ 64))
theorem name_all {s : ByteArray} (h : ∀ j, j < s.size → chA (s[j]!).toNat = true) : nameOk s = (decide (1 ≤ s.size) && decide (s.size ≤ 64)) := by
  unfold nameOk
  rw [List.all_eq_true.2 (fun j hj => h j (List.mem_range.1 hj))]
  rfl
theorem name_bad {s : ByteArray} {k : Nat} (hk : k < s.size) (h : chA (s[k]!).toNat = false) : nameOk s = false := by
  unfold nameOk
  have e : (List.range s.size).all (fun j => chA (s[j]!).toNat) = false := by
    rw [List.all_eq_false]
    exact ⟨k, List.mem_range.2 hk, by rw [h]; simp⟩
  rw [e]
  rfl
set_option maxHeartbeats 4000000 in
theorem sValid_any (s : ByteArray) (hs : s.size ≤ 9223372036854775807) (w : World) : Calls Tryz.prog 50 #[.string s] w fun e w' => e = .returned (.bool (nameOk s)) ∧ Below w.heap.size w w' := by
  have hi := indexByte_any
  have HI := Lib.hid hi
  clear hi
  go_enter Tryz.func50, Tryz.ntmps50
  go_wp2_with fail
  go_loopw [8] (fun i wr => ∃ k : Nat, k ≤ s.size ∧ i = .int .i64 (k : Nat) ∧ (∀ j, j < k → chA (s[j]!).toNat = true) ∧ Below w.heap.size w wr) (fun i _ => s.size - (intOf i).toNat)
  case atStart => exact ⟨0, by omega, rfl, fun j hj => absurd hj (by omega), Below.refl _ _⟩
  case round =>
    obtain ⟨k, hk, rfl, hall, hbel⟩ := hrel
    have HA := Lib.hid (And.intro hall hbel)
    clear hall hbel
    by_cases hlt : k < s.size
    · go_upto_region 6 with (fail)
      obtain ⟨c, hc⟩ : ∃ c : Nat, c = s[k].toNat := ⟨_, rfl⟩
      have hc' : (s[k]!).toNat = c := by rw [hc, getElem!_pos s k hlt]
      have hc256 : c < 256 := by rw [hc]; exact UInt8.toNat_lt _
      rw [← hc]
      obtain ⟨lw, hlw⟩ : ∃ z, z = bits .or .u8 (c : Int) 32 := ⟨_, rfl⟩
      rw [← hlw]
      obtain ⟨ix, hix⟩ : ∃ z, z = firstIdx marks ((c : Int).toNat.toUInt8) := ⟨_, rfl⟩
      have hic := HI.out (c : Int)
      rw [← hix] at hic
      have hch : chA c = ((decide (97 ≤ lw) && decide (lw ≤ 122)) || ((decide (48 ≤ (c : Int)) && decide ((c : Int) ≤ 57)) || decide (0 ≤ ix))) := by unfold chA; rw [← hlw, ← hix]
      have HC := Lib.hid (And.intro hc' (And.intro hch hic))
      have HW := Lib.hid (show ∀ j, j < k → chA (s[j]!).toNat = true from HA.out.1)
      clear hc hc' hch hic hlw hix
      by_cases e1 : 97 ≤ lw
      · have d1 : decide (97 ≤ lw) = true := by simp [e1]
        by_cases e2 : lw ≤ 122
        · have d2 : decide (lw ≤ 122) = true := by simp [e2]
          have HT := Lib.hid (show chA c = true by rw [HC.out.2.1]; simp [e1, e2])
          clear e1 e2
          go_wp2_with fail
          go_roundw
          case rel =>
            refine ⟨k + 1, by omega, by go_num, fun j hj => ?_, HA.out.2⟩
            rcases Nat.lt_or_ge j k with h | h
            · exact HW.out j h
            · obtain rfl : j = k := by omega
              rw [HC.out.1]; exact HT.out
          case measure => simp [intOf] <;> omega
        · have d2 : decide (lw ≤ 122) = false := by simp; omega
          by_cases e3 : 48 ≤ (c : Int)
          · have d3 : decide (48 ≤ (c : Int)) = true := by simp; omega
            by_cases e4 : (c : Int) ≤ 57
            · have d4 : decide ((c : Int) ≤ 57) = true := by simp; omega
              have HT := Lib.hid (show chA c = true by rw [HC.out.2.1]; simp [d3, d4])
              clear e1 e2 e3 e4
              go_wp2_with fail
              go_roundw
              case rel =>
                refine ⟨k + 1, by omega, by go_num, fun j hj => ?_, HA.out.2⟩
                rcases Nat.lt_or_ge j k with h | h
                · exact HW.out j h
                · obtain rfl : j = k := by omega
                  rw [HC.out.1]; exact HT.out
              case measure => simp [intOf] <;> omega
            · have d4 : decide ((c : Int) ≤ 57) = false := by simp; omega
              clear e1 e2 e3 e4
              go_wp2_with fail
              refine (HC.out.2.2 _).mono ?_
              rintro e w1 ⟨rfl, hb⟩
              have HB := Lib.hid (below_join' HA.out.2 hb)
              clear hb
              by_cases e5 : 0 ≤ ix
              · have d5 : decide (0 ≤ ix) = true := by simp [e5]
                have HT := Lib.hid (show chA c = true by rw [HC.out.2.1, d5]; simp)
                clear e5 
                go_wp2_with fail
                go_roundw
                case rel =>
                  refine ⟨k + 1, by omega, by go_num, fun j hj => ?_, HB.out⟩
                  rcases Nat.lt_or_ge j k with h | h
                  · exact HW.out j h
                  · obtain rfl : j = k := by omega
                    rw [HC.out.1]; exact HT.out
                case measure => simp [intOf] <;> omega
              · have d5 : decide (0 ≤ ix) = false := by simp; omega
                have HT := Lib.hid (show nameOk s = false from name_bad hlt (by rw [HC.out.1, HC.out.2.1, d5]; simp [d1, d2, d3, d4]))
                clear e5 
                go_wp2_with fail
                go_ret
                exact ⟨by rw [HT.out]; rfl, HB.out⟩
          · have d3 : decide (48 ≤ (c : Int)) = false := by simp; omega
            clear e1 e2 e3
            go_wp2_with fail
            refine (HC.out.2.2 _).mono ?_
            rintro e w1 ⟨rfl, hb⟩
            have HB := Lib.hid (below_join' HA.out.2 hb)
            clear hb
            by_cases e5 : 0 ≤ ix
            · have d5 : decide (0 ≤ ix) = true := by simp [e5]
              have HT := Lib.hid (show chA c = true by rw [HC.out.2.1, d5]; simp)
              clear e5 
              go_wp2_with fail
              go_roundw
              case rel =>
                refine ⟨k + 1, by omega, by go_num, fun j hj => ?_, HB.out⟩
                rcases Nat.lt_or_ge j k with h | h
                · exact HW.out j h
                · obtain rfl : j = k := by omega
                  rw [HC.out.1]; exact HT.out
              case measure => simp [intOf] <;> omega
            · have d5 : decide (0 ≤ ix) = false := by simp; omega
              have HT := Lib.hid (show nameOk s = false from name_bad hlt (by rw [HC.out.1, HC.out.2.1, d5]; simp [d1, d2, d3]))
              clear e5 
              go_wp2_with fail
              go_ret
              exact ⟨by rw [HT.out]; rfl, HB.out⟩
      · have d1 : decide (97 ≤ lw) = false := by simp; omega
        by_cases e3 : 48 ≤ (c : Int)
        · have d3 : decide (48 ≤ (c : Int)) = true := by simp; omega
          by_cases e4 : (c : Int) ≤ 57
          · have d4 : decide ((c : Int) ≤ 57) = true := by simp; omega
            have HT := Lib.hid (show chA c = true by rw [HC.out.2.1]; simp [d3, d4])
            clear e1 e3 e4
            go_wp2_with fail
            go_roundw
            case rel =>
              refine ⟨k + 1, by omega, by go_num, fun j hj => ?_, HA.out.2⟩
              rcases Nat.lt_or_ge j k with h | h
              · exact HW.out j h
              · obtain rfl : j = k := by omega
                rw [HC.out.1]; exact HT.out
            case measure => simp [intOf] <;> omega
          · have d4 : decide ((c : Int) ≤ 57) = false := by simp; omega
            clear e1 e3 e4
            go_wp2_with fail
            refine (HC.out.2.2 _).mono ?_
            rintro e w1 ⟨rfl, hb⟩
            have HB := Lib.hid (below_join' HA.out.2 hb)
            clear hb
            by_cases e5 : 0 ≤ ix
            · have d5 : decide (0 ≤ ix) = true := by simp [e5]
              have HT := Lib.hid (show chA c = true by rw [HC.out.2.1, d5]; simp)
              clear e5 
              go_wp2_with fail
              go_roundw
              case rel =>
                refine ⟨k + 1, by omega, by go_num, fun j hj => ?_, HB.out⟩
                rcases Nat.lt_or_ge j k with h | h
                · exact HW.out j h
                · obtain rfl : j = k := by omega
                  rw [HC.out.1]; exact HT.out
              case measure => simp [intOf] <;> omega
            · have d5 : decide (0 ≤ ix) = false := by simp; omega
              have HT := Lib.hid (show nameOk s = false from name_bad hlt (by rw [HC.out.1, HC.out.2.1, d5]; simp [d1, d3, d4]))
              clear e5 
              go_wp2_with fail
              go_ret
              exact ⟨by rw [HT.out]; rfl, HB.out⟩
        · have d3 : decide (48 ≤ (c : Int)) = false := by simp; omega
          clear e1 e3
          go_wp2_with fail
          refine (HC.out.2.2 _).mono ?_
          rintro e w1 ⟨rfl, hb⟩
          have HB := Lib.hid (below_join' HA.out.2 hb)
          clear hb
          by_cases e5 : 0 ≤ ix
          · have d5 : decide (0 ≤ ix) = true := by simp [e5]
            have HT := Lib.hid (show chA c = true by rw [HC.out.2.1, d5]; simp)
            clear e5 
            go_wp2_with fail
            go_roundw
            case rel =>
              refine ⟨k + 1, by omega, by go_num, fun j hj => ?_, HB.out⟩
              rcases Nat.lt_or_ge j k with h | h
              · exact HW.out j h
              · obtain rfl : j = k := by omega
                rw [HC.out.1]; exact HT.out
            case measure => simp [intOf] <;> omega
          · have d5 : decide (0 ≤ ix) = false := by simp; omega
            have HT := Lib.hid (show nameOk s = false from name_bad hlt (by rw [HC.out.1, HC.out.2.1, d5]; simp [d1, d3]))
            clear e5 
            go_wp2_with fail
            go_ret
            exact ⟨by rw [HT.out]; rfl, HB.out⟩
    · obtain rfl : k = s.size := by omega
      have hn := name_all HA.out.1
      by_cases h0 : s.size = 0
      · obtain rfl : s = ByteArray.empty := by
          apply ByteArray.ext
          exact Array.eq_empty_of_size_eq_zero h0
        have HN := Lib.hid (show nameOk ByteArray.empty = false from hn)
        clear hn
        go_wp2_with fail
        go_ret
        exact ⟨by rw [HN.out]; rfl, HA.out.2⟩
      · have hne : s ≠ ByteArray.empty := fun h => h0 (by rw [h]; rfl)
        have h1 : 1 ≤ s.size := by omega
        have d0 : s.toList.isEmpty = false := by
          cases h : s.toList with
          | nil => exact absurd ((toList_nil_iff_emptyBytes s).1 h) hne
          | cons a l => rfl
        by_cases h64 : s.size ≤ 64
        · have HN := Lib.hid (show nameOk s = true by rw [hn]; simp [h1, h64])
          have d1 : decide ((s.size : Int) ≤ 64) = true := by simp; omega
          clear hn h64
          go_wp2_with fail
          go_ret
          exact ⟨by rw [HN.out]; rfl, HA.out.2⟩
        · have HN := Lib.hid (show nameOk s = false by rw [hn]; simp [h64])
          have d1 : decide ((s.size : Int) ≤ 64) = false := by simp; omega
          clear hn h64
          go_wp2_with fail
          go_ret
          exact ⟨by rw [HN.out]; rfl, HA.out.2⟩
end Go.Proofs.YtopbbicjbjmdnaaGreatDoor
namespace Go.Proofs.YtopbbicjbjmdnaaGreatDoor
open Go.RowKit Go.Maps
open Go.WideMaps (keyOf_string_mk)
set_option maxRecDepth 100000
set_option linter.unusedVariables false
set_option linter.unusedSimpArgs false
theorem law : Keyed Tryz.prog 9 := string_keyed Tryz.underlying9
theorem zeroInt (w : World) : (zeroValue 3).run Tryz.prog w = .ok (.int .i64 0) w := by kernel_rfl
def klS (s : ByteArray) : Lit := .string s.data.toList
theorem klS_inj {s t : ByteArray} (h : klS s = klS t) : s = t := by
  unfold klS at h
  injection h with h
  apply ByteArray.ext
  exact Array.toList_inj.1 h
theorem klS_key (s : ByteArray) : WideAt.IsKeyLit (klS s) := by unfold klS; simp [WideAt.IsKeyLit]
theorem klS_of {s : ByteArray} (h : s.size ≤ maxLen) : keyOf Tryz.prog 9 (.string s) = some (klS s) := keyOf_string_mk Tryz.underlying9 h
/-- What the map reads as behind k names. -/
def Dn (nm : Nat → ByteArray) : Nat → DataW Unit
  | 0 => .map []
  | k + 1 => (Dn nm k).put (klS (nm k)) (.lit (.int .i64 k))
theorem Dn_isMap (nm : Nat → ByteArray) : ∀ k, IsMap (Dn nm k)
  | 0 => isMap_empty
  | k + 1 => (Dn_isMap nm k).put _ _
theorem Dn_tidy (nm : Nat → ByteArray) : ∀ k, Tidy (Dn nm k)
  | 0 => tidy_empty
  | k + 1 => (Dn_tidy nm k).put (klS_key _) _
theorem Dn_has (nm : Nat → ByteArray) (s : ByteArray) : ∀ k, Maps.has (Dn nm k) (klS s) = true ↔ ∃ j, j < k ∧ nm j = s
  | 0 => by
    constructor
    · intro h; cases h
    · rintro ⟨j, hj, _⟩; omega
  | k + 1 => by
    by_cases e : nm k = s
    · subst e
      constructor
      · intro _; exact ⟨k, by omega, rfl⟩
      · intro _; exact has_put_same (Dn_isMap nm k) (klS_key _) _
    · have hne : klS s ≠ klS (nm k) := fun h => e (klS_inj h).symm
      show Maps.has ((Dn nm k).put (klS (nm k)) _) (klS s) = true ↔ _
      rw [has_put_other hne, Dn_has nm s k]
      constructor
      · rintro ⟨j, hj, h⟩; exact ⟨j, by omega, h⟩
      · rintro ⟨j, hj, h⟩
        have : j ≠ k := fun h' => e (by rw [← h', h])
        exact ⟨j, by omega, h⟩
/-- No two of the first k names are one. -/
def Apart (nm : Nat → ByteArray) (k : Nat) : Prop := ∀ i j, i < j → j < k → nm i ≠ nm j
theorem Dn_size (nm : Nat → ByteArray) : ∀ k, Apart nm k → Maps.size (Dn nm k) = k
  | 0, _ => rfl
  | k + 1, h => by
    show Maps.size ((Dn nm k).put (klS (nm k)) _) = k + 1
    have hh : ¬ Maps.has (Dn nm k) (klS (nm k)) = true := by
      rw [Dn_has]
      rintro ⟨j, hj, e⟩
      exact h j k hj (by omega) e
    rw [size_put (Dn_tidy nm k), if_neg hh, Dn_size nm k (fun i j h1 h2 => h i j h1 (by omega))]
theorem Dn_at (nm : Nat → ByteArray) (z : DataW Unit) : ∀ k, Apart nm k → ∀ j, j < k → (Dn nm k).atKey (klS (nm j)) z = .lit (.int .i64 j)
  | 0, _, j, hj => by omega
  | k + 1, h, j, hj => by
    show ((Dn nm k).put (klS (nm k)) _).atKey (klS (nm j)) z = _
    by_cases e : j = k
    · subst e
      rw [atKey_put_same (Dn_isMap nm j) (klS_key _)]
    · rw [atKey_put_other (fun h' => h j k (by omega) (by omega) (klS_inj h')), Dn_at nm z k (fun i j h1 h2 => h i j h1 (by omega)) j (by omega)]
def MapIs (w : World) (m k : Nat) (nm : Nat → ByteArray) : Prop := w.ownsMap Tryz.prog 9 (plainElem (H := Unit) Tryz.prog 3) m k (Dn nm k)
theorem MapIs.block {w w' : World} {m k : Nat} {nm : Nat → ByteArray} (h : MapIs w m k nm) (hb : w'.heap[m]? = w.heap[m]?) : MapIs w' m k nm := by
  obtain ⟨es, clock, h1, r⟩ := h
  exact ⟨es, clock, by rw [hb]; exact h1, r⟩
theorem MapIs.call {w w' : World} {m k : Nat} {nm : Nat → ByteArray} (h : MapIs w m k nm) (hb : Below w.heap.size w w') : MapIs w' m k nm :=
  h.block (hb.block m (World.ownsMap.lt h))
theorem MapIs.setCell {w : World} {m k g j : Nat} {nm : Nat → ByteArray} (h : MapIs w m k nm) (hg : m ≠ g) (v : Value) : MapIs (w.setCell ⟨g, j, none⟩ v) m k nm := World.ownsMap.setCell h hg v
theorem Own.grownM {w0 w w' : World} {L : List (Nat × TypeId × Array Value)} {m : Nat} (h : Own w0 L w) (hg : w.grownBy w' (some m)) (hm : ∀ b ∈ L, b.1 ≠ m) (hge : w0.heap.size ≤ m) : Own w0 L w' := by
  refine ⟨⟨hg.os.trans h.bel.os, hg.tape.trans h.bel.tape, hg.output.trans h.bel.output, Nat.le_trans h.bel.size hg.size, fun q hq => ?_⟩, fun b hb => ⟨(h.blk b hb).1, ?_⟩, h.nd⟩
  · rw [hg.block q (Nat.lt_of_lt_of_le hq h.bel.size) (fun e => by injection e with e; omega)]
    exact h.bel.block q hq
  · show w'.heap[b.1]? = _
    rw [hg.block b.1 (h.lt b hb) (fun e => by injection e with e; exact hm b hb e)]
    exact (h.blk b hb).2
/-- A dictionary of the first k names, in a world with other known blocks. -/
structure DictS (w0 : World) (L : List (Nat × TypeId × Array Value)) (d m k : Nat) (nm : Nat → ByteArray) (w : World) : Prop where
  own : Own w0 ((d, 86, #[.map (some m)]) :: L) w
  map : MapIs w m k nm
  ge : w0.heap.size ≤ m
  ne : ∀ b ∈ (d, 86, #[Value.map (some m)]) :: L, b.1 ≠ m
theorem DictS.call {w0 w w' : World} {L : List (Nat × TypeId × Array Value)} {d m k : Nat} {nm : Nat → ByteArray} (h : DictS w0 L d m k nm w) (hb : Below w.heap.size w w') : DictS w0 L d m k nm w' := ⟨h.own.call hb, h.map.call hb, h.ge, h.ne⟩
theorem dmap_none (m : Nat) (w : World) : (binOp .eql 84 (.map (some m)) (.map none)).run Tryz.prog w = .ok (.bool false) w := by kernel_rfl
theorem dptr_none (d : Nat) (w : World) : (binOp .eql 49 (.pointer (some ⟨d, 0, none⟩)) (.pointer none)).run Tryz.prog w = .ok (.bool false) w := by kernel_rfl
set_option maxHeartbeats 400000 in
theorem dnone_any (w : World) (d m : Nat) (hc : w.cell? ⟨d, 0, none⟩ = some (.map (some m))) : Calls Tryz.prog 34 #[.pointer (some ⟨d, 0, none⟩)] w fun e w' => e = .returned (.bool false) ∧ Below w.heap.size w w' := by
  have q1 := dmap_none m
  have q2 := dptr_none d
  go_enter Tryz.func34, Tryz.ntmps34
  go_wp2_with fail
  go_ret
  exact ⟨rfl, Below.refl _ _⟩
set_option maxHeartbeats 400000 in
theorem dNew_any (w : World) (nm : Nat → ByteArray) : Calls Tryz.prog 32 #[] w fun e w' => e = .returned (.pointer (some ⟨w.heap.size + 1, 0, none⟩)) ∧ DictS w [] (w.heap.size + 1) w.heap.size 0 nm w' := by
  have hmm := @run_makeMap Tryz.prog
  go_enter Tryz.func32, Tryz.ntmps32
  go_wp2_with fail
  go_ret
  refine ⟨rfl, ⟨((Own.start w).call ((Below.refl _ _).alloc (Nat.le_refl _) (.map #[] 0))).alloc (by simp) _ _, (World.ownsMap_made _ _ _ _ : World.ownsMap _ _ _ _ _ _ _).alloc _, Nat.le_refl _, ?_⟩⟩
  intro b hb
  obtain rfl := List.mem_singleton.1 hb
  show w.heap.size + 1 ≠ w.heap.size
  omega
/-- What Put leaves. -/
def PutD (w0 : World) (L : List (Nat × TypeId × Array Value)) (d m k : Nat) (nm : Nat → ByteArray) (e : Ending) (w' : World) : Prop :=
  (nameOk (nm k) = false ∧ e = .returned (.tuple #[.int .i64 0, .int .i64 2]) ∧ DictS w0 L d m k nm w') ∨
  (nameOk (nm k) = true ∧ (∃ j, j < k ∧ nm j = nm k) ∧ ∃ c, e = .returned (.tuple #[.int .i64 c, .int .i64 0]) ∧ DictS w0 L d m k nm w') ∨
  (nameOk (nm k) = true ∧ ¬ (∃ j, j < k ∧ nm j = nm k) ∧ e = .returned (.tuple #[.int .i64 (k : Nat), .int .i64 0]) ∧ DictS w0 L d m (k + 1) nm w')
set_option maxHeartbeats 4000000 in
theorem dPut_any (w0 w : World) (L : List (Nat × TypeId × Array Value)) (d m k : Nat) (nm : Nat → ByteArray) (h : DictS w0 L d m k nm w) (hk : k < 1024) (hap : Apart nm k) (hs : (nm k).size ≤ maxLen) :
    Calls Tryz.prog 33 #[.pointer (some ⟨d, 0, none⟩), .string (nm k)] w (PutD w0 L d m k nm) := by
  have hkey := klS_of hs
  have hz := Dn_size nm k hap
  have hh := Dn_has nm (nm k) k
  have H0 := Lib.hid (And.intro h (And.intro hkey (And.intro hz hh)))
  have HSZ := Lib.hid hs
  clear h hkey hz hh hap hs
  obtain ⟨s, hs⟩ : ∃ s, s = nm k := ⟨_, rfl⟩
  rw [← hs]
  have HNS := Lib.hid hs
  clear hs
  go_enter Tryz.func33, Tryz.ntmps33
  go_wp2_with fail
  refine (dnone_any _ d m (H0.out.1.own.cell 0 0 rfl rfl)).mono ?_
  rintro e w1 ⟨rfl, hb⟩
  have H1 := Lib.hid (H0.out.1.call hb)
  clear hb
  go_wp2_with fail
  refine (sValid_any s (by rw [HNS.out]; have := HSZ.out; unfold maxLen at this; omega) _).mono ?_
  rintro e w2 ⟨rfl, hb⟩
  have H2 := Lib.hid (H1.out.call hb)
  clear hb H1
  have hn : nameOk s = nameOk (nm k) := by rw [HNS.out]
  cases hv : nameOk (nm k) with
  | false =>
    rw [hn, hv]
    have HV := Lib.hid hv
    clear hv hn
    go_wp2_with fail
    go_ret2
    exact .inl ⟨HV.out, rfl, H2.out⟩
  | true =>
    rw [hn, hv]
    have HV := Lib.hid hv
    clear hv hn
    have hc := H2.out.own.cell 0 0 rfl rfl
    have hown : World.ownsMap w2 Tryz.prog 9 (plainElem (H := Unit) Tryz.prog 3) m k (Dn nm k) := H2.out.map
    have hkey : keyOf Tryz.prog 9 (.string s) = some (klS (nm k)) := by rw [HNS.out]; exact H0.out.2.1
    cases hx : Maps.has (Dn nm k) (klS (nm k)) with
    | true =>
      have HX := Lib.hid hx
      go_wp2_with (at_lookup; refine wpList_lookup_own_ok_int _ rfl _ _ 84 rfl 9 3 .i64 law Tryz.underlying84 Tryz.underlying3 (zeroInt _) m k (Dn nm k) rfl hown _ _ rfl hkey ?_; intro c hat hwc)
      go_ret2
      exact .inr (.inl ⟨HV.out, (H0.out.2.2.2).1 HX.out, c, rfl, H2.out⟩)
    | false =>
      have HX := Lib.hid (show ¬ ∃ j, j < k ∧ nm j = nm k from fun h => by rw [(H0.out.2.2.2).2 h] at hx; cases hx)
      have hsz := H0.out.2.2.1
      have dk : decide ((1024 : Int) ≤ (k : Int)) = false := by simp; omega
      have hkm : k < maxLen := by unfold maxLen; omega
      go_wp2_with (first
        | (at_lookup; refine wpList_lookup_own_ok_int _ rfl _ _ 84 rfl 9 3 .i64 law Tryz.underlying84 Tryz.underlying3 (zeroInt _) m k (Dn nm k) rfl hown _ _ rfl hkey ?_; intro c hat hwc)
        | (at_len; refine wpList_len_own _ rfl _ 84 rfl 9 3 Tryz.underlying84 _ m k _ rfl hown ?_; rw [hsz])
        | (at_mapUpdate; refine wpList_mapUpdate_own _ rfl _ _ _ 84 rfl 9 3 law Tryz.underlying84 _ m k _ rfl hown hkm _ _ _ rfl rfl hkey _ [] (plainElem_int Tryz.underlying3 (WalkArith.wf_i64 (by omega))) ?_; intro w3 hown3 hgrow3))
      go_ret2
      exact .inr (.inr ⟨HV.out, HX.out, rfl, ⟨H2.out.own.grownM hgrow3 H2.out.ne H2.out.ge, hown3, H2.out.ge, H2.out.ne⟩⟩)
end Go.Proofs.YtopbbicjbjmdnaaGreatDoor
namespace Go.Proofs.YtopbbicjbjmdnaaGreatDoor
section
variable {P : Program} {ops : Array Oper} {Q : Exit → Act → World → Prop} {S S' : World → Prop}
theorem wpAnyH_more (himp : ∀ w, S' w → S w) : ∀ (fuel : Nat) (listed : Array Bool) (a : Act) (w : World), wpAnyH P .any ops Q S' fuel listed a w → wpAnyH P .any ops Q S fuel listed a w
  | 0, _, _, _, h => h
  | fuel + 1, _, _, _, h => ⟨h.1, fun i hi => wpOp_mono (fun a' w' h' => ⟨himp _ h'.1, wpAnyH_more himp fuel _ a' w' h'.2⟩) (h.2 i hi)⟩
/-- The world under another name. -/
theorem wp_gen {c : Code} {a : Act} {w : World} (S : World → Prop) (hS : S w) (h : ∀ w, S w → c.wp P Q a w) : c.wp P Q a w := h w hS
theorem reg_start {id : Nat} {a : Act} {w : World} (S : World → Prop) (hm : P.follows .mixedOrders = true) (hS : S w.drew)
    (h : wpAnyH P .any ops Q S ops.size (Array.replicate ops.size false) a w.drew) : (Code.region id ops true).wp P Q a w :=
  wp_region_held_drew hm hS (fun _ => h)
theorem reg_take {i : Nat} {oi : Oper} {v : Value} {fuel : Nat} {listed : Array Bool} {a : Act} {w : World} (hi : ops[i]? = some oi)
    (hs : Region.noSelect ops = true) (hf : Region.free .any ops listed i = true) (hr : (Region.ready .any ops listed).contains i = true)
    (hQ : ∀ c a w, Q (.panic c) (a.put oi.dst v) w → Q (.panic c) a w) (hy : YieldsIf P ops S oi v a) (hS : S w)
    (h : wpAnyH P .any ops Q S fuel (listed.setIfInBounds i true) (a.put oi.dst v) w) : wpAnyH P .any ops Q S (fuel + 1) listed a w :=
  wpAnyH_take hi hs hf hr hQ hy hS h
/-- Behind a call: what follows, with whatever holds from there on. -/
def Then (P : Program) (ops : Array Oper) (Q : Exit → Act → World → Prop) (S : World → Prop) (fuel : Nat) (listed : Array Bool) (K : Act → World → Prop) : Prop :=
  ∀ (S' : World → Prop) (a : Act) (w : World), (∀ w, S' w → S w) → S' w → wpAnyH P .any ops Q S' fuel listed a w → K a w
theorem Then.to {fuel : Nat} {listed : Array Bool} {K : Act → World → Prop} (h : Then P ops Q S fuel listed K) (S' : World → Prop) {a : Act} {w : World} (himp : ∀ w, S' w → S w) (hS : S' w) (k : wpAnyH P .any ops Q S' fuel listed a w) : K a w := h S' a w himp hS k
theorem Then.go {fuel : Nat} {listed : Array Bool} {K : Act → World → Prop} (h : Then P ops Q S fuel listed K) (S' : World → Prop) {a : Act} {w : World} (himp : ∀ w, S' w → S w) (hS : S' w) (k : ∀ w, S' w → wpAnyH P .any ops Q S' fuel listed a w) : K a w := h S' a w himp hS (k w hS)
theorem reg_call {i : Nat} {o : Oper} {fuel : Nat} {listed : Array Bool} {a : Act} {w : World} (ho : ops[i]? = some o) (hr : Region.ready .any ops listed = [i])
    (h : ∀ K : Act → World → Prop, Then P ops Q S fuel (listed.setIfInBounds i true) K → if Region.wanted o (yielded ops a.tmps) = true then Oper.wp P o a w K Q else K (a.put o.dst undef) w) :
    wpAnyH P .any ops Q S (fuel + 1) listed a w :=
  wpAnyH_ready hr (by simp) (AllReadyH.cons ho (fun K hK => h K (fun _ a w himp hS hW => hK.out a w (himp _ hS) (fun _ => wpAnyH_more himp _ _ _ _ hW))) AllReadyH.nil)
theorem reg_two {i j : Nat} {o o' : Oper} {fuel : Nat} {listed : Array Bool} {a : Act} {w : World} (ho : ops[i]? = some o) (ho' : ops[j]? = some o') (hr : Region.ready .any ops listed = [i, j])
    (h : ∀ K : Act → World → Prop, Then P ops Q S fuel (listed.setIfInBounds i true) K → if Region.wanted o (yielded ops a.tmps) = true then Oper.wp P o a w K Q else K (a.put o.dst undef) w)
    (h' : ∀ K : Act → World → Prop, Then P ops Q S fuel (listed.setIfInBounds j true) K → if Region.wanted o' (yielded ops a.tmps) = true then Oper.wp P o' a w K Q else K (a.put o'.dst undef) w) :
    wpAnyH P .any ops Q S (fuel + 1) listed a w :=
  wpAnyH_ready hr (by simp) (AllReadyH.cons ho (fun K hK => h K (fun _ a w himp hS hW => hK.out a w (himp _ hS) (fun _ => wpAnyH_more himp _ _ _ _ hW)))
    (AllReadyH.cons ho' (fun K hK => h' K (fun _ a w himp hS hW => hK.out a w (himp _ hS) (fun _ => wpAnyH_more himp _ _ _ _ hW))) AllReadyH.nil))
end
end Go.Proofs.YtopbbicjbjmdnaaGreatDoor
namespace Go.Proofs.YtopbbicjbjmdnaaGreatDoor
open Go.RowKit Go.Maps
set_option maxRecDepth 100000
set_option linter.unusedVariables false
set_option linter.unusedSimpArgs false
theorem strInfo : (Tryz.prog.info? 9).map (fun i => (i.zero, i.size, i.bytes)) = some (some (.string ByteArray.empty), 1, 16) := by kernel_rfl
theorem key_inv {key : Value} {kl : Lit} (h : keyOf Tryz.prog 9 key = some kl) : ∃ s : ByteArray, key = .string s ∧ kl = klS s := by
  simp only [keyOf, mapKey, Tryz.underlying9] at h
  cases key <;> simp at h
  rename_i s
  exact ⟨s, rfl, by unfold klS; exact h.2.symm⟩
/-- What stands at place j while some names are still to come. -/
def outS (left : Lit → Bool) (nm : Nat → ByteArray) (j : Nat) : ByteArray := if left (klS (nm j)) = true then ByteArray.empty else nm j
theorem grown_set (w : World) (g j : Nat) (v : Value) : w.grownBy (w.setCell ⟨g, j, none⟩ v) (some g) :=
  have b : Below 0 w (w.setCell ⟨g, j, none⟩ v) := (Below.refl 0 w).setCell (p := ⟨g, j, none⟩) (Nat.zero_le _) v
  ⟨b.os, b.tape, b.output, b.size, fun q _ hq => Below.heap_setCell _ _ _ _ (fun e => hq (by rw [e]))⟩
def NamesPost (k : Nat) (nm : Nat → ByteArray) (w : World) (e : Ending) (w' : World) : Prop :=
  ∃ o cs, e = .returned (.slice (some ⟨o, 0, none⟩) k k) ∧ w.heap.size ≤ o ∧ Blk w' o 9 cs ∧ cs.size = k ∧ (∀ j, j < k → cs[j]? = some (.string (nm j))) ∧ Below w.heap.size w w'
set_option maxHeartbeats 4000000 in
theorem dNames_any (w0 w : World) (L : List (Nat × TypeId × Array Value)) (d m k : Nat) (nm : Nat → ByteArray) (h : DictS w0 L d m k nm w) (hk : k ≤ 1024) (hap : Apart nm k) :
    Calls Tryz.prog 25 #[.pointer (some ⟨d, 0, none⟩)] w (NamesPost k nm w) := by
  have hmk := run_make_row' (P := Tryz.prog) 43 9 (.string ByteArray.empty) 16 Tryz.underlying43 strInfo rfl .i64 .i64 k (by omega) (by omega)
  have hz := Dn_size nm k hap
  have H0 := Lib.hid (And.intro h hap)
  clear h hap
  go_enter Tryz.func25, Tryz.ntmps25
  go_wp2_with fail
  refine (dnone_any _ d m (H0.out.1.own.cell 0 0 rfl rfl)).mono ?_
  rintro e w1 ⟨rfl, hb⟩
  have h1 := H0.out.1.call hb
  have HB := Lib.hid hb
  have H1 := Lib.hid h1
  clear hb h1
  have hc := H1.out.own.cell 0 0 rfl rfl
  have hown : World.ownsMap w1 Tryz.prog 9 (plainElem (H := Unit) Tryz.prog 3) m k (Dn nm k) := H1.out.map
  go_upto_region 4 with (at_len; refine wpList_len_own _ rfl _ 84 rfl 9 3 Tryz.underlying84 _ m k _ rfl hown ?_; rw [hz])
  obtain ⟨o, ho⟩ : ∃ o, o = w1.heap.size := ⟨_, rfl⟩
  rw [← ho]
  have hal : Below w1.heap.size w1 (w1.alloc (.cells (madeCells #[.string ByteArray.empty] k) 9)) := (Below.refl _ _).alloc (Nat.le_refl _) _
  refine wp_gen (fun wx => DictS w0 L d m k nm wx ∧ Blk wx o 9 (madeCells #[.string ByteArray.empty] k) ∧ Below w.heap.size w wx ∧ w.heap.size ≤ o) ⟨H1.out.call hal, by rw [ho]; exact Blk.fresh _ _ _, HB.out.trans (hal.mono HB.out.size), by rw [ho]; exact HB.out.size⟩ ?_
  rintro w2 ⟨h2, hb2, hl2, hwo⟩
  clear hc hown hal hmk H1 HB ho
  have hc := h2.own.cell 0 0 rfl rfl
  have hown : World.ownsMap w2 Tryz.prog 9 (plainElem (H := Unit) Tryz.prog 3) m k (Dn nm k) := h2.map
  have hol := hb2.lt
  have H2 := Lib.hid (And.intro h2 (And.intro hb2 hl2))
  clear h2 hb2 hl2
  go_wp2_with (at_range; refine wpList_range_own _ rfl _ 84 rfl 9 3 law Tryz.underlying84 _ m k _ rfl hown ?_; intro w3 hrg0 hg0 hs0)
  try go_frame
  obtain ⟨r, hr⟩ : ∃ r, r = w2.heap.size := ⟨_, rfl⟩
  rw [← hr] at hrg0 ⊢
  have hro : o ≠ r := by omega
  have hom : o ≠ m := fun e => by
    have h1 := H2.out.2.1
    obtain ⟨es, clock, h3, _⟩ := hown
    rw [← e] at h3
    have : w2.heap[o]? = some (.cells (madeCells #[.string ByteArray.empty] k) 9 (0, 0)) := h1
    rw [this] at h3
    cases h3
  have hl3 : Below w.heap.size w w3 := by
    refine ⟨hg0.os.trans H2.out.2.2.os, hg0.tape.trans H2.out.2.2.tape, hg0.output.trans H2.out.2.2.output, Nat.le_trans H2.out.2.2.size hg0.size, fun q hq => ?_⟩
    rw [hg0.block q (Nat.lt_of_lt_of_le hq H2.out.2.2.size) (fun e => by cases e)]
    exact H2.out.2.2.block q hq
  have hb3 : Blk w3 o 9 (madeCells #[.string ByteArray.empty] k) := by
    show w3.heap[o]? = _
    rw [hg0.block o hol (fun e => by cases e)]
    exact H2.out.2.1
  have HR := Lib.hid (And.intro hrg0 (And.intro hb3 (And.intro hl3 (And.intro hom (show w.heap.size ≤ r by rw [hr]; exact H2.out.2.2.size)))))
  clear hrg0 hb3 hl3 hom hg0 hs0 hown hc hol hr
  go_loopw [4] (fun _ wr => ∃ (left : Lit → Bool) (cnt : Nat) (cs : Array Value), wr.ranges Tryz.prog 9 (plainElem (H := Unit) Tryz.prog 3) m r k (Dn nm k) left cnt ∧ Blk wr o 9 cs ∧ cs.size = k ∧ (∀ j, j < k → cs[j]? = some (.string (outS left nm j))) ∧ Below w.heap.size w wr)
    (fun _ wr => wr.rangeLeft m r)
  case atStart =>
    refine ⟨_, _, _, HR.out.1, HR.out.2.1, size_madeCells _ _, fun j hj => ?_, HR.out.2.2.1⟩
    have hh : Maps.has (Dn nm k) (klS (nm j)) = true := (Dn_has nm (nm j) k).2 ⟨j, hj, rfl⟩
    unfold outS
    rw [if_pos hh]
    simp [madeCells, hj, Nat.mod_one]
  case round =>
    obtain ⟨left, cnt, cs, hrg, hblk, hsz, hcs, hbel⟩ := hrel
    go_wp2_with (at_next; refine wpList_next_ranges _ rfl _ rfl 9 law (plainElem (H := Unit) Tryz.prog 3) Value.string (Value.int .i64) (fun key kl h => (key_inv h).imp fun _ h => h.1) (fun v y h => by obtain ⟨c, rfl, _⟩ := plainElem_int_inv Tryz.underlying3 h; exact ⟨c, rfl⟩) m r k _ _ _ rfl hrg ?_ ?_)
    · intro hc0 hl0
      have HF := Lib.hid (And.intro hl0 (And.intro hblk (And.intro hsz (And.intro hcs hbel))))
      clear hl0 hblk hsz hcs hbel hrg hc0
      go_wp2_with fail
      go_ret
      refine ⟨o, cs, rfl, hwo, HF.out.2.1, HF.out.2.2.1, fun j hj => ?_, HF.out.2.2.2.2⟩
      rw [HF.out.2.2.2.1 j hj]
      unfold outS
      rw [HF.out.1]
      rfl
    · intro x c kl y1 y2 w4 cnt1 hkx hlx hvy hat hrg1 hlt hg1 hs1 hen
      obtain ⟨s', e1, rfl⟩ := key_inv hkx
      injection e1 with e1
      subst e1
      obtain ⟨j, hjk, rfl⟩ := (Dn_has nm x k).1 (has_true_of_atKey hat)
      have hcj : c = (j : Int) := by
        obtain ⟨c', ec, ey, hw⟩ := plainElem_int_inv Tryz.underlying3 hvy
        have h1 := hat .nil
        rw [Dn_at nm .nil k H0.out.2 j hjk] at h1
        injection ec with _ ec
        injection ey with ey _
        rw [ey] at h1
        injection h1 with h1
        injection h1 with _ h1
        rw [ec, ← h1]
      subst hcj
      have hb4 : Blk w4 o 9 cs := by
        show w4.heap[o]? = _
        rw [hg1.block o hblk.lt (fun e => by injection e with e; exact hro e)]
        exact hblk
      have hl4 : Below w.heap.size w w4 := by
        have hrw : w.heap.size ≤ r := HR.out.2.2.2.2
        refine ⟨hg1.os.trans hbel.os, hg1.tape.trans hbel.tape, hg1.output.trans hbel.output, Nat.le_trans hbel.size hg1.size, fun q hq => ?_⟩
        rw [hg1.block q (Nat.lt_of_lt_of_le hq hbel.size) (fun e => by injection e with e; omega)]
        exact hbel.block q hq
      have zc : w4.cell? ⟨o, j, none⟩ = some (.string (outS left nm j)) := by rw [hb4.cell j]; exact hcs j hjk
      have zf := hb4.frozen
      have hrg2 := hrg1.kept (grown_set w4 o j (.string (nm j))) (fun e => by injection e with e; exact HR.out.2.2.2.1 e.symm) (fun e => by injection e with e; exact hro e.symm)
      have hb5 := hb4.set j (.string (nm j))
      have hl5 := hl4.setCell (p := ⟨o, j, none⟩) hwo (.string (nm j))
      have hout : ∀ i, i < k → (cs.setIfInBounds j (.string (nm j)))[i]? = some (.string (outS (fun z => left z && !z.sameKey (klS (nm j))) nm i)) := by
        intro i hi
        by_cases e : i = j
        · subst e
          rw [Array.getElem?_setIfInBounds_self_of_lt (by omega)]
          unfold outS
          simp [WideAt.sameKey_self (klS_key (nm i))]
        · rw [Array.getElem?_setIfInBounds_ne (fun h => e h.symm), hcs i hi]
          have hne : klS (nm i) ≠ klS (nm j) := fun h => by
            rcases Nat.lt_or_gt_of_ne e with h1 | h1
            · exact H0.out.2 i j h1 hjk (klS_inj h)
            · exact H0.out.2 j i h1 hi (klS_inj h).symm
          unfold outS
          simp [sameKey_ne hne]
      have HS := Lib.hid (And.intro hrg2 (And.intro hb5 (And.intro hl5 (And.intro hout (And.intro hrg.left_eq hlt)))))
      have hjk' : (j : Int) < (k : Int) := by omega
      clear hrg2 hb5 hl5 hout hrg hlt hb4 hl4 hrg1 hat hvy hkx hlx hcs hbel hblk hg1 hs1
      go_wp2_with fail
      go_roundw
      case rel => exact ⟨_, cnt1, _, HS.out.1, HS.out.2.1, by rw [Array.size_setIfInBounds]; exact hsz, HS.out.2.2.2.1, HS.out.2.2.1⟩
      case measure => rw [HS.out.1.left_eq, HS.out.2.2.2.2.1]; exact HS.out.2.2.2.2.2
end Go.Proofs.YtopbbicjbjmdnaaGreatDoor
namespace Go.Proofs.YtopbbicjbjmdnaaGreatDoor.V
open Go.RowKit Go.Extern.Stop Go.Stop Go.Extern
set_option linter.unusedVariables false
set_option linter.unusedSimpArgs false
theorem erTypeOf (v : Value) (w : World) : (Extern.ReflectliteType.typeOf #[.iface 26 v]).run Tryz.prog w = .ok (.iface 131 (.agg #[.pointer (some ⟨2, 26, none⟩)])) w := by kernel_rfl
theorem erComparable (w : World) : ((Extern.ReflectliteType.method fun t => do Rtype.noPackHeld "Comparable" t; (fun a => Value.bool a.comparable) <$> typeInfo t) #[.agg #[.pointer (some ⟨2, 26, none⟩)]]).run Tryz.prog w = .ok (.bool true) w := by kernel_rfl
theorem erIsE (v : Value) (xT : TypeId) (w : World) : (Instr.typeAssert (.iface 26 v) xT 133 true).run Tryz.prog w = .ok (.tuple #[.nilIface, .bool false]) w := run_typeAssert_lacksB Tryz.underlying133 (by kernel_rfl) (by kernel_rfl) v xT w
theorem erUnwrapE (v : Value) (xT : TypeId) (w : World) : (Instr.typeAssert (.iface 26 v) xT 136 true).run Tryz.prog w = .ok (.tuple #[.nilIface, .bool false]) w := run_typeAssert_lacksB Tryz.underlying136 (by kernel_rfl) (by kernel_rfl) v xT w
theorem erUnwrapsE (v : Value) (xT : TypeId) (w : World) : (Instr.typeAssert (.iface 26 v) xT 138 true).run Tryz.prog w = .ok (.tuple #[.nilIface, .bool false]) w := run_typeAssert_lacksB Tryz.underlying138 (by kernel_rfl) (by kernel_rfl) v xT w
theorem erIsF (v : Value) (xT : TypeId) (w : World) : (Instr.typeAssert (.iface 160 v) xT 133 true).run Tryz.prog w = .ok (.tuple #[.nilIface, .bool false]) w := run_typeAssert_lacksB Tryz.underlying133 (by kernel_rfl) (by kernel_rfl) v xT w
theorem erUnwrapF (v : Value) (xT : TypeId) (w : World) : (Instr.typeAssert (.iface 160 v) xT 136 true).run Tryz.prog w = .ok (.tuple #[.iface 160 v, .bool true]) w := run_typeAssert_hasB Tryz.underlying136 (by kernel_rfl) v xT w
theorem erMComp (v : Value) (w : World) : (Go.method 322 131 v "Comparable").run Tryz.prog w = .ok (124, v) w := by kernel_rfl
theorem erMUnwrap (v : Value) (w : World) : (Go.method 322 160 v "Unwrap").run Tryz.prog w = .ok (134, v) w := by kernel_rfl
theorem er_nil (v : Value) (w : World) :
    Calls Tryz.prog 29 #[.nilIface, .iface 26 v] w fun e w' => e = .returned (.bool false) ∧ w = w' := by
  have hn := run_eql_iface_nil_left (P := Tryz.prog) w 26 v Tryz.underlying69
  go_enter Tryz.func29, Tryz.ntmps29
  go_wp2
  go_ret
  exact ⟨rfl, rfl⟩
theorem fault_unwrap (i k : Int) (w : World) :
    Calls Tryz.prog 134 #[.agg #[.int .i64 i, .int .i64 k]] w fun e w' => e = .returned (.iface 26 (.int .i64 k)) ∧ w' = w.alloc (.cells #[.int .i64 i, .int .i64 k] 160) := by
  go_enter Tryz.func134, Tryz.ntmps134
  go_wp2
  go_ret
  exact ⟨rfl, rfl⟩
set_option maxRecDepth 100000 in
set_option maxHeartbeats 1000000 in
theorem er_fault (i k : Int) (w : World) :
    Calls Tryz.prog 29 #[.iface 160 (.agg #[.int .i64 i, .int .i64 k]), .iface 26 (.int .i64 10)] w fun e w' => e = .returned (.bool (k == 10)) ∧ Below w.heap.size w w' := by
  have h8 := @run_callFunc_extern Tryz.prog 47 _ Extern.ReflectliteType.typeOf Tryz.func47 (by kernel_rfl) (by kernel_rfl) (by kernel_rfl) (by kernel_rfl)
  have h32 := @run_callFunc_extern Tryz.prog 124 _ (Extern.ReflectliteType.method fun t => do Rtype.noPackHeld "Comparable" t; pure (.bool (← typeInfo t).comparable)) Tryz.func124 (by kernel_rfl) (by kernel_rfl) (by kernel_rfl) (by kernel_rfl)
  have tT := erTypeOf
  have cT := erComparable
  have nE := erIsE
  have uE := erUnwrapE
  have vE := erUnwrapsE
  have nF := erIsF
  have uF := erUnwrapF
  have mC := erMComp
  have mU := erMUnwrap
  have heq := fun w => Lib.run_eql_iface_int (P := Tryz.prog) w (k := .i64) (t := 69) (tx := 26) k 10 Tryz.underlying69 (by kernel_rfl) Tryz.underlying26
  have hty := fun w => run_eql_iface_types (P := Tryz.prog) 160 26 (.agg #[.int .i64 i, .int .i64 k]) (.int .i64 10) Tryz.underlying69 (by decide) w
  go_enter Tryz.func29, Tryz.ntmps29
  go_wp2
  refine wp_loop_rounds 2 ?_
  rw [rounds_succ]
  go_wp2
  by_cases hk : k = 10
  · subst hk
    rw [rounds_succ]
    go_wp2
    go_ret
    exact ⟨rfl, (Below.refl _ _).alloc (Nat.le_refl _) _⟩
  · rw [rounds_succ]
    go_wp2
    go_ret
    exact ⟨by rw [show (k == 10) = false by simp [hk]]; rfl, (Below.refl _ _).alloc (Nat.le_refl _) _⟩
end Go.Proofs.YtopbbicjbjmdnaaGreatDoor.V
namespace Go.Proofs.YtopbbicjbjmdnaaGreatDoor.V
open Go.RowKit Go.Extern.Stop Go.Stop Go.Extern
set_option linter.unusedVariables false
set_option linter.unusedSimpArgs false
theorem as_nil (t : Value) (w : World) :
    Calls Tryz.prog 81 #[.nilIface, t] w fun e w' => e = .returned (.bool false) ∧ w = w' := by
  go_enter Tryz.func81, Tryz.ntmps81
  go_wp2
  go_ret
  exact ⟨rfl, rfl⟩
theorem asValueOfP (t : Addr) (w : World) : (ReflectliteValue.unpack (.iface 162 (.pointer (some t)))).run Tryz.prog w
    = .ok (.agg #[.pointer (some ⟨2, 162, none⟩), .pointer (some ⟨w.heap.size, 0, none⟩), .int .u64 150]) (w.alloc (.cells #[.pointer (some t)] 162)) := by kernel_rfl
theorem asTypeP (a : Addr) (w : World) : (ReflectliteValue.methodAny (ReflectliteValue.valueError "reflectlite.Value.Type" 0) (fun t _ _ _ => ReflectliteType.toType t) #[.agg #[.pointer (some ⟨2, 162, none⟩), .pointer (some a), .int .u64 150]]).run Tryz.prog w
    = .ok (.iface 131 (.agg #[.pointer (some ⟨2, 162, none⟩)])) w := by kernel_rfl
theorem asMKind (h : Value) (w : World) : (Go.method 322 131 (.agg #[h]) "Kind").run Tryz.prog w = .ok (117, h) w := by kernel_rfl
theorem asKindP (w : World) : ((ReflectliteType.abiMethod fun t => (fun a : Nat => Value.int IntKind.u8 (a : Int)) <$> Rtype.kind t) #[.pointer (some ⟨2, 162, none⟩)]).run Tryz.prog w = .ok (.int .u8 22) w := by kernel_rfl
theorem asKindF (w : World) : ((ReflectliteType.abiMethod fun t => (fun a : Nat => Value.int IntKind.u8 (a : Int)) <$> Rtype.kind t) #[.pointer (some ⟨2, 160, none⟩)]).run Tryz.prog w = .ok (.int .u8 25) w := by kernel_rfl
theorem rlm (z : Sem Value) (f : TypeId → Addr → Nat → Nat → Sem Value) (v : Value) :
    ReflectliteValue.method z f #[v] = (do match ← ReflectliteValue.parts v with | none => z | some (t, a, fl) => f t a fl (fl % 32)) := rfl
theorem asPartsP (a : Addr) (w : World) : (ReflectliteValue.parts (.agg #[.pointer (some ⟨2, 162, none⟩), .pointer (some a), .int .u64 150])).run Tryz.prog w = .ok (some (162, a, 150)) w := by kernel_rfl
theorem asIsNilP (a p : Addr) (W : World) (ha : W.cell? a = some (.pointer (some p))) :
    (ReflectliteValue.method (ReflectliteValue.valueError "reflectlite.Value.IsNil" 0) ReflectliteValue.isNil #[.agg #[.pointer (some ⟨2, 162, none⟩), .pointer (some a), .int .u64 150]]).run Tryz.prog W = .ok (.bool false) W := by
  rw [rlm]
  simp only [Sem.run_bind, asPartsP, Result.andThen]
  simp [ReflectliteValue.isNil, loadVar, isAgg, underlying, Tryz.underlying162, ha, Result.andThen]
theorem asMElem (h : Value) (w : World) : (Go.method 322 131 (.agg #[h]) "Elem").run Tryz.prog w = .ok (125, .agg #[h]) w := by kernel_rfl
theorem asMImpl (h : Value) (w : World) : (Go.method 322 131 (.agg #[h]) "Implements").run Tryz.prog w = .ok (126, .agg #[h]) w := by kernel_rfl
theorem asMAss (h : Value) (w : World) : (Go.method 322 131 (.agg #[h]) "AssignableTo").run Tryz.prog w = .ok (123, .agg #[h]) w := by kernel_rfl
theorem asElemP (w : World) : (ReflectliteType.method ReflectliteType.elem #[.agg #[.pointer (some ⟨2, 162, none⟩)]]).run Tryz.prog w = .ok (.iface 131 (.agg #[.pointer (some ⟨2, 160, none⟩)])) w := by kernel_rfl
theorem asImplF (w : World) : (ReflectliteType.relation "Implements" ReflectliteType.implements_ #[.agg #[.pointer (some ⟨2, 160, none⟩)], .iface 131 (.agg #[.pointer (some ⟨2, 69, none⟩)])]).run Tryz.prog w = .ok (.bool true) w := by kernel_rfl
theorem asTypeOfF (v : Value) (w : World) : (ReflectliteType.typeOf #[.iface 160 v]).run Tryz.prog w = .ok (.iface 131 (.agg #[.pointer (some ⟨2, 160, none⟩)])) w := by kernel_rfl
theorem asAssF (w : World) : (ReflectliteType.relation "AssignableTo" ReflectliteType.assignableTo #[.agg #[.pointer (some ⟨2, 160, none⟩)], .iface 131 (.agg #[.pointer (some ⟨2, 160, none⟩)])]).run Tryz.prog w = .ok (.bool true) w := by kernel_rfl
theorem asValueOfF (i k : Int) (w : World) : (ReflectliteValue.unpack (.iface 160 (.agg #[.int .i64 i, .int .i64 k]))).run Tryz.prog w
    = .ok (.agg #[.pointer (some ⟨2, 160, none⟩), .pointer (some ⟨w.heap.size, 0, none⟩), .int .u64 153]) (w.alloc (.cells #[.int .i64 i, .int .i64 k] 160)) := by kernel_rfl
theorem asElemOfP (w : World) : (Rtype.elem? 162).run Tryz.prog w = .ok (some 160) w := by kernel_rfl
theorem asMkF (p : Addr) (w : World) : (ReflectliteValue.mk 160 p ReflectliteValue.flagAddr).run Tryz.prog w = .ok (.agg #[.pointer (some ⟨2, 160, none⟩), .pointer (some p), .int .u64 409]) w := by kernel_rfl
theorem asElemVP (a p : Addr) (W : World) (ha : W.cell? a = some (.pointer (some p))) :
    (ReflectliteValue.method (ReflectliteValue.valueError "reflectlite.Value.Elem" 0) ReflectliteValue.elem #[.agg #[.pointer (some ⟨2, 162, none⟩), .pointer (some a), .int .u64 150]]).run Tryz.prog W
      = .ok (.agg #[.pointer (some ⟨2, 160, none⟩), .pointer (some p), .int .u64 409]) W := by
  rw [rlm]
  simp only [Sem.run_bind, asPartsP, Result.andThen]
  simp [ReflectliteValue.elem, loadVar, isAgg, underlying, Tryz.underlying162, ha, Result.andThen, asElemOfP, asMkF]
theorem rls (v x : Value) : ReflectliteValue.set #[v, x] = (do
    let (some (dst, a, fl), some (src, b, _)) := (← ReflectliteValue.parts v, ← ReflectliteValue.parts x)
      | unsupported (.noEntry "extern/(internal/reflectlite.Value).Set.zeroValue")
    if fl / ReflectliteValue.flagAddr % 2 == 0 then unsupported (.noEntry "extern/(internal/reflectlite.Value).Set.unaddressable")
    let val ← loadVar src b
    if ← Rtype.directlyAssignable dst src then storeVar dst a val
    else if ← Rtype.implements dst src then
      if (← Rtype.kind src) == 20 then
        match val with
        | .nilIface => unsupported (.noEntry "extern/reflectlite: a nil value of one interface type handed on as a value of another")
        | _ => storeVar dst a val
      else storeVar dst a (.iface src val)
    else panicString ("reflectlite.Set: value of type " ++ (← Rtype.spelt src) ++ " is not assignable to type " ++ (← Rtype.spelt dst))
    pure (.tuple #[])) := rfl
theorem asPartsFa (a : Addr) (w : World) : (ReflectliteValue.parts (.agg #[.pointer (some ⟨2, 160, none⟩), .pointer (some a), .int .u64 409])).run Tryz.prog w = .ok (some (160, a, 409)) w := by kernel_rfl
theorem asPartsF (a : Addr) (w : World) : (ReflectliteValue.parts (.agg #[.pointer (some ⟨2, 160, none⟩), .pointer (some a), .int .u64 153])).run Tryz.prog w = .ok (some (160, a, 153)) w := by kernel_rfl
theorem asDirectF (w : World) : (Rtype.directlyAssignable 160 160).run Tryz.prog w = .ok true w := by kernel_rfl
theorem asSizeF (w : World) : (sizeOf 160).run Tryz.prog w = .ok 2 w := by kernel_rfl
/-- (Value).Set: the fault variable at block g gets what the Value's own variable, block b, holds. -/
theorem asSetF (g b : Nat) (i k : Int) (o1 o2 : Value) (W : World) (hb : Blk W b 160 #[.int .i64 i, .int .i64 k]) (hg : Blk W g 160 #[o1, o2]) :
    (ReflectliteValue.set #[.agg #[.pointer (some ⟨2, 160, none⟩), .pointer (some ⟨g, 0, none⟩), .int .u64 409], .agg #[.pointer (some ⟨2, 160, none⟩), .pointer (some ⟨b, 0, none⟩), .int .u64 153]]).run Tryz.prog W
      = .ok (.tuple #[]) ((W.setCell ⟨g, 0, none⟩ (.int .i64 i)).setCell ⟨g, 1, none⟩ (.int .i64 k)) := by
  rw [rls]
  simp only [Sem.run_bind, asPartsFa, asPartsF, Result.andThen]
  have c0 : W.cell? ⟨b, 0, none⟩ = some (.int .i64 i) := by rw [hb.cell 0]; rfl
  have c1 : W.cell? ⟨b, 1, none⟩ = some (.int .i64 k) := by rw [hb.cell 1]; rfl
  have d0 : W.cell? ⟨g, 0, none⟩ = some o1 := by rw [hg.cell 0]; rfl
  have hg2 := hg.set 0 (.int .i64 i)
  have d1 : (W.setCell ⟨g, 0, none⟩ (.int .i64 i)).cell? ⟨g, 1, none⟩ = some o2 := by rw [hg2.cell 1]; rfl
  have f0 := hg.frozen 0
  have f1 := hg2.frozen 1
  have hl : (loadCells ⟨b, 0, none⟩ 2).run Tryz.prog W = .ok #[.int .i64 i, .int .i64 k] W := by
    simp [loadCells, loadCellsFrom, Addr.add, c0, c1, Result.andThen]
  have e1 : (store ⟨g, 0, none⟩ (.int .i64 i)).run Tryz.prog W = .ok () (W.setCell ⟨g, 0, none⟩ (.int .i64 i)) := by
    rw [run_store _ _ _ _ _ (by rfl), d0]; simp [f0]
  have e2 : (store ⟨g, 1, none⟩ (.int .i64 k)).run Tryz.prog (W.setCell ⟨g, 0, none⟩ (.int .i64 i)) = .ok () ((W.setCell ⟨g, 0, none⟩ (.int .i64 i)).setCell ⟨g, 1, none⟩ (.int .i64 k)) := by
    rw [run_store _ _ _ _ _ (by rfl), d1]; simp [f1]
  have hs : (storeCells ⟨g, 0, none⟩ [.int .i64 i, .int .i64 k]).run Tryz.prog W = .ok () ((W.setCell ⟨g, 0, none⟩ (.int .i64 i)).setCell ⟨g, 1, none⟩ (.int .i64 k)) := by
    unfold storeCells
    rw [Sem.run_bind, show (⟨g, 0, none⟩ : Addr).add 0 = ⟨g, 0, none⟩ by rfl, e1]
    show (storeCells ⟨g, 0, none⟩ [.int .i64 k] (0 + 1)).run Tryz.prog _ = _
    unfold storeCells
    rw [Sem.run_bind, show (⟨g, 0, none⟩ : Addr).add (0 + 1) = ⟨g, 1, none⟩ by rfl, e2]
    rfl
  simp [ReflectliteValue.flagAddr, loadVar, isAgg, underlying, Tryz.underlying160, hl, Result.andThen, asDirectF, storeVar, Value.cells, hs]
def AsPost (g : Nat) (i k : Int) (w : World) (e : Ending) (w' : World) : Prop :=
  e = .returned (.bool true) ∧ Keeps (fun x => x = g) w w' ∧ Blk w' g 160 #[.int .i64 i, .int .i64 k]
set_option maxRecDepth 100000 in
set_option maxHeartbeats 4000000 in
theorem as_fault (g : Nat) (i k : Int) (o1 o2 : Value) (w : World) (hv : w.cell? ⟨0, 0, none⟩ = some (.iface 131 (.agg #[.pointer (some ⟨2, 69, none⟩)]))) (hg : Blk w g 160 #[o1, o2]) :
    Calls Tryz.prog 81 #[.iface 160 (.agg #[.int .i64 i, .int .i64 k]), .iface 162 (.pointer (some ⟨g, 0, none⟩))] w (AsPost g i k w) := by
  have hE1 := @run_callFunc_extern Tryz.prog 95 _ (fun args => ReflectliteValue.unpack (args.getD 0 (.tuple #[]))) Tryz.func95 (by kernel_rfl) (by kernel_rfl) (by kernel_rfl) (by kernel_rfl)
  have hE2 := @run_callFunc_extern Tryz.prog 96 _ (ReflectliteValue.methodAny (ReflectliteValue.valueError "reflectlite.Value.Type" 0) (fun t _ _ _ => ReflectliteType.toType t)) Tryz.func96 (by kernel_rfl) (by kernel_rfl) (by kernel_rfl) (by kernel_rfl)
  have hE3 := @run_callFunc_extern Tryz.prog 97 _ (ReflectliteValue.method (ReflectliteValue.valueError "reflectlite.Value.IsNil" 0) ReflectliteValue.isNil) Tryz.func97 (by kernel_rfl) (by kernel_rfl) (by kernel_rfl) (by kernel_rfl)
  have hE4 := @run_callFunc_extern Tryz.prog 117 _ (ReflectliteType.abiMethod fun t => do pure (.int .u8 (← Rtype.kind t))) Tryz.func117 (by kernel_rfl) (by kernel_rfl) (by kernel_rfl) (by kernel_rfl)
  have hE5 := @run_callFunc_extern Tryz.prog 125 _ (ReflectliteType.method ReflectliteType.elem) Tryz.func125 (by kernel_rfl) (by kernel_rfl) (by kernel_rfl) (by kernel_rfl)
  have hE6 := @run_callFunc_extern Tryz.prog 126 _ (ReflectliteType.relation "Implements" ReflectliteType.implements_) Tryz.func126 (by kernel_rfl) (by kernel_rfl) (by kernel_rfl) (by kernel_rfl)
  have hE7 := @run_callFunc_extern Tryz.prog 47 _ ReflectliteType.typeOf Tryz.func47 (by kernel_rfl) (by kernel_rfl) (by kernel_rfl) (by kernel_rfl)
  have hE8 := @run_callFunc_extern Tryz.prog 123 _ (ReflectliteType.relation "AssignableTo" ReflectliteType.assignableTo) Tryz.func123 (by kernel_rfl) (by kernel_rfl) (by kernel_rfl) (by kernel_rfl)
  have hE9 := @run_callFunc_extern Tryz.prog 101 _ (ReflectliteValue.method (ReflectliteValue.valueError "reflectlite.Value.Elem" 0) ReflectliteValue.elem) Tryz.func101 (by kernel_rfl) (by kernel_rfl) (by kernel_rfl) (by kernel_rfl)
  have hE10 := @run_callFunc_extern Tryz.prog 102 _ ReflectliteValue.set Tryz.func102 (by kernel_rfl) (by kernel_rfl) (by kernel_rfl) (by kernel_rfl)
  have q1 := asValueOfP
  have q2 := asTypeP
  have q3 := asMKind
  have q4 := asKindP
  have q5 := asKindF
  have q6 := asMElem
  have q7 := asMImpl
  have q8 := asMAss
  have q9 := asElemP
  have q10 := asImplF
  have q11 := asTypeOfF
  have q12 := asAssF
  have q13 := asValueOfF i k
  obtain ⟨x, hx⟩ : ∃ x, x = w.heap.size := ⟨_, rfl⟩
  have hlt : g < x := by rw [hx]; exact hg.lt
  have o1' := (Own.own1 w hx 162 #[.pointer (some ⟨g, 0, none⟩)])
  have o2' := o1'.alloc (show x + 1 = _ by simp [hx]) 180 #[.pointer (some ⟨2, 162, none⟩), .pointer (some ⟨x, 0, none⟩), .int .u64 150]
  have o3' := o2'.alloc (show x + 1 + 1 = _ by simp [hx]) 180 #[.pointer (some ⟨2, 162, none⟩), .pointer (some ⟨x, 0, none⟩), .int .u64 150]
  have o4' := o3'.alloc (show x + 1 + 1 + 1 = _ by simp [hx]) 160 #[.int .i64 i, .int .i64 k]
  have n8 := asIsNilP ⟨x, 0, none⟩ ⟨g, 0, none⟩ _ (o2'.cell 0 0 rfl rfl)
  have el := asElemVP ⟨x, 0, none⟩ ⟨g, 0, none⟩ _ (o3'.cell 0 0 rfl rfl)
  have bb := o4'.get 3 rfl
  have bg := hg.below o4'.bel (by rw [← hx]; exact hlt)
  have st := asSetF g (x + 1 + 1 + 1) i k o1 o2 _ bb bg
  have hv2 := (World.cell?_of_block (w := w) (a := ⟨0, 0, none⟩) (o2'.bel.block 0 (World.block_lt_of_cell? w _ hv))).trans hv
  rw [hx] at n8 el st hv2
  have HB := Lib.hid (And.intro bg (And.intro o4'.keeps (And.intro hx hlt)))
  clear o1' o2' o3' o4' bb bg hx hlt hv
  go_enter Tryz.func81, Tryz.ntmps81
  go_wp2
  refine wp_loop_rounds 1 ?_
  rw [rounds_succ]
  go_wp2
  go_ret
  have hB := HB.out
  rw [← hB.2.2.1]
  have b1 := hB.1.set 0 (.int .i64 i)
  have b2 := b1.set 1 (.int .i64 k)
  have k1 : Keeps (fun x => x = g) w _ := hB.2.1.mono (T := fun x => x = g) (fun _ _ h => h.elim)
  have k2 : Keeps (fun x => x = g) w _ := k1.setCell (p := ⟨g, 0, none⟩) (fun _ => rfl) (.int .i64 i)
  have k3 : Keeps (fun x => x = g) w _ := k2.setCell (p := ⟨g, 1, none⟩) (fun _ => rfl) (.int .i64 k)
  exact ⟨rfl, k3, b2⟩
end Go.Proofs.YtopbbicjbjmdnaaGreatDoor.V
namespace Go.Proofs.YtopbbicjbjmdnaaGreatDoor
open Go.RowKit
/-- A slice of integers that came in: nil, or a row of cap cells, the numbers zs. -/
def IsRow (k : IntKind) (w : World) (a : Option Addr) (len cap : Nat) (zs : List Int) : Prop :=
  (a = none ∧ len = 0 ∧ cap = 0 ∧ zs = []) ∨
  ∃ x, a = some x ∧ len ≤ cap ∧ cap ≤ maxLen ∧ zs.length = cap ∧ (∀ i, i < zs.length → w.cell? (x.add i) = some (.int k (zs.getD i 0))) ∧ ∀ n ∈ zs, (Lit.int k n).wf = true
/-- The bytes of a list as cells. -/
def byteC (bs : List Nat) (j : Nat) : Value := .int .u8 ((bs.getD j 0 : Nat) : Int)
def intC (xs : List Int) (j : Nat) : Value := .int .i64 (xs.getD j 0)
theorem IsRow.le {k : IntKind} {w : World} {a : Option Addr} {len cap : Nat} {zs : List Int} (h : IsRow k w a len cap zs) : len ≤ cap ∧ cap ≤ 9223372036854775807 ∧ zs.length = cap := by
  rcases h with ⟨rfl, rfl, rfl, rfl⟩ | ⟨x, rfl, hl, hm, hz, -, -⟩
  · simp
  · unfold maxLen at hm
    omega
theorem IsRow.sl {k : IntKind} {w : World} {a : Option Addr} {len cap : Nat} {zs : List Int} (h : IsRow k w a len cap zs) (m : Nat) (hm : m ≤ len) : Sl w (fun x => x < w.heap.size) a m (fun j => .int k (zs.getD j 0)) := by
  intro h0
  rcases h with ⟨rfl, rfl, rfl, rfl⟩ | ⟨x, rfl, hl, hm, hz, hcell, -⟩
  · omega
  · obtain ⟨b, off, spot⟩ := x
    have hc := hcell 0 (by omega)
    have hspot : spot = none := by simpa [Addr.add] using World.cell?_spot hc
    subst hspot
    have hadd : ∀ j, (⟨b, off, none⟩ : Addr).add j = ⟨b, off + j, none⟩ := fun j => by unfold Addr.add; split <;> simp_all
    refine ⟨b, off, rfl, World.block_lt_of_cell? w _ hc, fun j hj => ?_⟩
    rw [← hadd]
    exact hcell j (by omega)
theorem IsRow.wf {k : IntKind} {w : World} {a : Option Addr} {len cap : Nat} {zs : List Int} (h : IsRow k w a len cap zs) (j : Nat) (hj : j < len) : (Lit.int k (zs.getD j 0)).wf = true := by
  have h1 := h.le
  rcases h with ⟨rfl, rfl, rfl, rfl⟩ | ⟨x, rfl, hl, hm, hz, -, hw⟩
  · omega
  · rw [List.getD_eq_getElem?_getD, List.getElem?_eq_getElem (by omega)]
    exact hw _ (List.getElem_mem _)
theorem wf_u8 {z : Int} (h : (Lit.int .u8 z).wf = true) : 0 ≤ z ∧ z < 256 := by
  simp [Lit.wf, IntKind.min, IntKind.max, IntKind.signed, IntKind.bits] at h
  omega
theorem wf_i64 {z : Int} (h : (Lit.int .i64 z).wf = true) : -9223372036854775808 ≤ z ∧ z ≤ 9223372036854775807 := by
  simp [Lit.wf, IntKind.min, IntKind.max, IntKind.signed, IntKind.bits] at h
  omega
theorem IsRow.bytes {w : World} {a : Option Addr} {len cap : Nat} {zs : List Int} (h : IsRow .u8 w a len cap zs) (m : Nat) (hm : m ≤ len) :
    ∃ bs : List Nat, bs.length = m ∧ (∀ j, bs.getD j 0 < 256) ∧ Sl w (fun x => x < w.heap.size) a m (byteC bs) := by
  have h1 := h.le
  refine ⟨(zs.take m).map Int.toNat, by simp; omega, fun j => ?_, (h.sl m hm).congr fun j hj => ?_⟩
  · rw [List.getD_eq_getElem?_getD, List.getElem?_map]
    rcases Nat.lt_or_ge j m with hj | hj
    · rw [List.getElem?_take_of_lt hj]
      have := wf_u8 (h.wf j (by omega))
      rw [List.getD_eq_getElem?_getD] at this
      cases hz : zs[j]? with
      | none => simp
      | some z => rw [hz] at this; simp at this ⊢; omega
    · rw [List.getElem?_eq_none (by simp; omega)]
      simp
  · have := wf_u8 (h.wf j (by omega))
    unfold byteC
    rw [List.getD_eq_getElem?_getD, List.getD_eq_getElem?_getD, List.getElem?_map, List.getElem?_take_of_lt hj]
    rw [List.getD_eq_getElem?_getD] at this
    rw [List.getElem?_eq_getElem (by omega)] at this ⊢
    simp at this ⊢
    omega
theorem IsRow.ints {w : World} {a : Option Addr} {len cap : Nat} {zs : List Int} (h : IsRow .i64 w a len cap zs) (m : Nat) (hm : m ≤ len) :
    ∃ xs : List Int, xs.length = m ∧ (∀ j, -9223372036854775808 ≤ xs.getD j 0 ∧ xs.getD j 0 ≤ 9223372036854775807) ∧ Sl w (fun x => x < w.heap.size) a m (intC xs) := by
  have h1 := h.le
  have hg : ∀ j, j < m → (zs.take m).getD j 0 = zs.getD j 0 := fun j hj => by
    rw [List.getD_eq_getElem?_getD, List.getD_eq_getElem?_getD, List.getElem?_take_of_lt hj]
  refine ⟨zs.take m, by simp; omega, fun j => ?_, (h.sl m hm).congr fun j hj => ?_⟩
  · rcases Nat.lt_or_ge j m with hj | hj
    · rw [hg j hj]
      exact wf_i64 (h.wf j (by omega))
    · rw [List.getD_eq_getElem?_getD, List.getElem?_eq_none (by simp; omega)]
      simp
  · unfold intC
    rw [hg j hj]
end Go.Proofs.YtopbbicjbjmdnaaGreatDoor
namespace Go.Proofs.YtopbbicjbjmdnaaGreatDoor.V
/-- The bytes of a number. -/
def vput (u : Nat) : List Nat := if u < 128 then [u] else (u % 128 + 128) :: vput (u / 128)
termination_by u
decreasing_by omega
theorem vput_small {u : Nat} (h : u < 128) : vput u = [u] := by rw [vput, if_pos h]
theorem vput_big {u : Nat} (h : ¬ u < 128) : vput u = (u % 128 + 128) :: vput (u / 128) := by rw [vput, if_neg h]
theorem vput_byte (u : Nat) : ∀ b ∈ vput u, b < 256 := by
  induction u using vput.induct with
  | case1 u h => rw [vput_small h]; simp; omega
  | case2 u h ih => rw [vput_big h]; intro b hb; rcases List.mem_cons.1 hb with rfl | hb; omega; exact ih b hb
theorem vput_len (k : Nat) : ∀ u, u < 128 ^ k → 0 < k → (vput u).length ≤ k := by
  induction k with
  | zero => intro _ _ h; omega
  | succ k ih =>
    intro u hu _
    by_cases h : u < 128
    · rw [vput_small h]; simp
    · rw [vput_big h, List.length_cons]
      have h1 : u / 128 < 128 ^ k := by rw [Nat.div_lt_iff_lt_mul (by omega)]; rw [Nat.pow_succ] at hu; exact hu
      have hk : 0 < k := by
        rcases Nat.eq_zero_or_pos k with h0 | h0
        · subst h0; simp at h1; omega
        · exact h0
      have := ih _ h1 hk
      omega
theorem vput_len10 {u : Nat} (h : u < 18446744073709551616) : (vput u).length ≤ 10 := vput_len 10 u (by omega) (by omega)
theorem vput_pos (u : Nat) : 0 < (vput u).length := by
  by_cases h : u < 128
  · rw [vput_small h]; simp
  · rw [vput_big h]; simp
theorem vput_mono (n : Nat) : ∀ a b, a ≤ b → b ≤ n → (vput a).length ≤ (vput b).length := by
  induction n with
  | zero => intro a b h1 h2; have h3 : a = b := by omega
            rw [h3]; exact Nat.le_refl _
  | succ n ih =>
    intro a b h1 h2
    by_cases ha : a < 128
    · rw [vput_small ha]; have := vput_pos b; simp; omega
    · rw [vput_big ha, vput_big (show ¬ b < 128 by omega), List.length_cons, List.length_cons]
      have := ih (a / 128) (b / 128) (by omega) (by omega)
      omega
theorem vor_step (u : Nat) : bits .or .u8 (IntKind.u8.wrap (u : Int)) 128 = ((u % 128 + 128 : Nat) : Int) := by
  rw [IntKind.wrap_u8', show (u : Int) % 256 = ((u % 256 : Nat) : Int) from by omega, show (128 : Int) = ((128 : Nat) : Int) from rfl, u8_or_nat _ _ (by omega) (by omega)]
  have key : ∀ x : Fin 256, (x.val ||| 128) = x.val % 128 + 128 := by decide +kernel
  have := key ⟨u % 256, Nat.mod_lt _ (by omega)⟩
  simp only at this
  rw [this]
  omega
theorem vor_step2 (u : Nat) : bits .or .u8 ((u : Int) % 256) 128 = ((u % 128 + 128 : Nat) : Int) := by
  rw [← vor_step, IntKind.wrap_u8']
end Go.Proofs.YtopbbicjbjmdnaaGreatDoor.V
