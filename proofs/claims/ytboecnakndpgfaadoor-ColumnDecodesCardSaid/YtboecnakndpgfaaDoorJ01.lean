/-
  Texts of this proof, joined: Mem, Args, Reg, Join, Own, Tl, Conv, Mask, Zig, Zag, BitPl, BitsRd, BitsRr.
-/
import Derived.Below
import Derived.Laws.OwnMore
import Derived.Deep.Draws
import Derived.Laws.Rows
import Derived.OwnWalk
import Derived.Maps.AppendAt
import Derived.RegionTactic
import Derived.ProofKit
import Derived.OpenShut
import Derived.Deep.RegionHeld3
import Derived.WalkKit
import Derived.KernelRfl
import Derived.Lib.Hide
import Derived.ArgAppend
import Derived.Laws.BytesArg
import Derived.Laws.BitsAllLaws
import Derived.Laws.BitsLemmas
import Derived.Test.YtboecnakndpgfaaDoorRows
import Derived.WalkSpells
import Derived.WalkLawsBesides
import Derived.Outline
import Derived.Lib.Zigzag
import Derived.Deep.QuietTactic
import Derived.BigQuiet
namespace Go.Proofs.YtboecnakndpgfaaDoor
open Go.RowKit

/-- w' is w but for the blocks of S, and for new ones. -/
structure Keeps (S : Nat → Prop) (w w' : World) : Prop where
  os : w'.os = w.os
  tape : w'.tape = w.tape
  output : w'.output = w.output
  size : w.heap.size ≤ w'.heap.size
  block : ∀ k, k < w.heap.size → ¬ S k → w'.heap[k]? = w.heap[k]?

namespace Keeps
variable {S T : Nat → Prop} {a b c w w' : World}
theorem refl (S : Nat → Prop) (w : World) : Keeps S w w := ⟨rfl, rfl, rfl, Nat.le_refl _, fun _ _ _ => rfl⟩
theorem trans (h : Keeps S a b) (k : Keeps T b c) (hT : ∀ x, x < a.heap.size → T x → S x) : Keeps S a c :=
  ⟨k.os.trans h.os, k.tape.trans h.tape, k.output.trans h.output, Nat.le_trans h.size k.size,
    fun i hi hn => (k.block i (Nat.lt_of_lt_of_le hi h.size) (fun ht => hn (hT i hi ht))).trans (h.block i hi hn)⟩
theorem trans' (h : Keeps S a b) (k : Keeps S b c) : Keeps S a c := h.trans k fun _ _ hx => hx
theorem mono (h : Keeps S a b) (hT : ∀ x, x < a.heap.size → S x → T x) : Keeps T a b :=
  ⟨h.os, h.tape, h.output, h.size, fun i hi hn => h.block i hi fun hs => hn (hT i hi hs)⟩
theorem drew (h : Keeps S a w) : Keeps S a w.drew := ⟨h.os, h.tape, h.output, h.size, h.block⟩
theorem drewN (h : Keeps S a w) (n : Nat) : Keeps S a (w.drewN n) := ⟨h.os, h.tape, h.output, h.size, h.block⟩
theorem alloc (h : Keeps S a w) (o : Obj) : Keeps S a (w.alloc o) :=
  h.trans (T := fun _ => False) ⟨rfl, rfl, rfl, by simp, fun k hk _ => Below.heap_alloc _ _ _ hk⟩ (fun _ _ hx => hx.elim)
theorem setCell (h : Keeps S a w) {p : Addr} (hp : p.block < a.heap.size → S p.block) (u : Value) : Keeps S a (w.setCell p u) :=
  h.trans (T := fun k => k = p.block) ⟨rfl, rfl, rfl, by simp [World.setCell], fun k _ hn => Below.heap_setCell _ _ _ _ hn⟩ (fun x hx hp' => by subst hp'; exact hp hx)
theorem grown {row : Option Nat} (h : Keeps S a w) (hg : w.grownBy w' row) (hr : ∀ k, row = some k → k < a.heap.size → S k) : Keeps S a w' :=
  h.trans (T := fun k => row = some k) ⟨hg.os, hg.tape, hg.output, hg.size, fun k hk hn => hg.block k hk (fun e => hn e.symm)⟩ (fun x hx e => hr x e hx)
theorem below (h : Keeps S a b) {B : Nat} (hB : B ≤ a.heap.size) (hS : ∀ k, k < B → ¬ S k) : Below B a b :=
  ⟨h.os, h.tape, h.output, h.size, fun k hk => h.block k (by omega) (hS k hk)⟩
theorem of_below (h : Below a.heap.size a b) : Keeps S a b := ⟨h.os, h.tape, h.output, h.size, fun k hk _ => h.block k hk⟩
theorem to_below (h : Keeps (fun _ => False) a b) : Below a.heap.size a b := h.below (Nat.le_refl _) fun _ _ hx => hx
end Keeps

/-- A slice of n elements of one cell each, that lie in a block of D: element j is f j. -/
def Sl (w : World) (D : Nat → Prop) (A : Option Addr) (n : Nat) (f : Nat → Value) : Prop :=
  0 < n → ∃ b off, A = some ⟨b, off, none⟩ ∧ D b ∧ ∀ j, j < n → w.cell? ⟨b, off + j, none⟩ = some (f j)

namespace Sl
variable {w w' : World} {D E : Nat → Prop} {A : Option Addr} {n m : Nat} {f g : Nat → Value}
theorem keep (h : Sl w D A n f) (hk : ∀ k, D k → k < w.heap.size → w'.heap[k]? = w.heap[k]?) : Sl w' D A n f := fun hn => by
  obtain ⟨b, off, e, hd, hc⟩ := h hn
  have hlt : b < w.heap.size := World.block_lt_of_cell? w _ (hc 0 hn)
  exact ⟨b, off, e, hd, fun j hj => (World.cell?_of_block (w := w) (a := ⟨b, off + j, none⟩) (hk b hd hlt)).trans (hc j hj)⟩
theorem keeps {S : Nat → Prop} (h : Sl w D A n f) (hk : Keeps S w w') (hd : ∀ k, D k → ¬ S k) : Sl w' D A n f :=
  h.keep fun k hD hlt => hk.block k hlt (hd k hD)
theorem below {B : Nat} (h : Sl w D A n f) (hk : Below B w w') (hd : ∀ k, D k → k < w.heap.size → k < B) : Sl w' D A n f :=
  h.keep fun k hD hlt => hk.block k (hd k hD hlt)
theorem mono (h : Sl w D A n f) (hd : ∀ k, D k → E k) : Sl w E A n f := fun hn => by
  obtain ⟨b, off, e, hD, hc⟩ := h hn
  exact ⟨b, off, e, hd b hD, hc⟩
theorem take (h : Sl w D A n f) (hm : m ≤ n) : Sl w D A m f := fun hn => by
  obtain ⟨b, off, e, hD, hc⟩ := h (by omega)
  exact ⟨b, off, e, hD, fun j hj => hc j (by omega)⟩
theorem congr (h : Sl w D A n f) (hf : ∀ j, j < n → f j = g j) : Sl w D A n g := fun hn => by
  obtain ⟨b, off, e, hD, hc⟩ := h hn
  exact ⟨b, off, e, hD, fun j hj => (hc j hj).trans (by rw [hf j hj])⟩
theorem nil (w : World) (D : Nat → Prop) (A : Option Addr) (f : Nat → Value) : Sl w D A 0 f := fun h => absurd h (by omega)
theorem of_own {base : Nat} {e : TypeId} {c : Nat} {xs : List Value} (h : w.ownsRow base e 1 (.slice A n c) n xs) (hf : ∀ j u, xs[j]? = some u → u = f j) :
    Sl w (fun k => (Value.slice A n c).ownBlock = some k) A n f := fun hn => by
  obtain ⟨g, hA⟩ : ∃ g, A = some ⟨g, 0, none⟩ := by
    rcases h.2 with ⟨_, h0⟩ | ⟨g, _, _, hv, _⟩
    · omega
    · exact ⟨g, by injection hv⟩
  subst hA
  refine ⟨g, 0, rfl, rfl, fun j hj => ?_⟩
  have hl : j < xs.length := by have := h.1; omega
  have := h.cells (g := g) rfl j xs[j] (List.getElem?_eq_getElem hl)
  rw [hf j xs[j] (List.getElem?_eq_getElem hl)] at this
  have hadd : (⟨g, 0, none⟩ : Addr).add j = ⟨g, 0 + j, none⟩ := by unfold Addr.add; split <;> simp_all
  rw [hadd] at this
  exact this
end Sl

/-- Block g is just the cells cs of type t, none frozen. -/
def Blk (w : World) (g : Nat) (t : TypeId) (cs : Array Value) : Prop := w.heap[g]? = some (.cells cs t (0, 0))

namespace Blk
variable {w w' : World} {g : Nat} {t : TypeId} {cs : Array Value}
theorem lt (h : Blk w g t cs) : g < w.heap.size := by
  rcases Nat.lt_or_ge g w.heap.size with hlt | hge
  · exact hlt
  · unfold Blk at h; rw [Array.getElem?_eq_none hge] at h; cases h
theorem cell (h : Blk w g t cs) (i : Nat) : w.cell? ⟨g, i, none⟩ = cs[i]? := cell_of_row w g i cs t (0, 0) h
theorem frozen (h : Blk w g t cs) (i : Nat) : w.frozen? ⟨g, i, none⟩ = false := by
  unfold Blk at h
  simp [World.frozen?, h]
theorem fresh (w : World) (t : TypeId) (cs : Array Value) : Blk (w.alloc (.cells cs t)) w.heap.size t cs := heap_alloc_new w _
theorem drew (h : Blk w g t cs) : Blk w.drew g t cs := h
theorem drewN (h : Blk w g t cs) (n : Nat) : Blk (w.drewN n) g t cs := h
theorem alloc (h : Blk w g t cs) (o : Obj) : Blk (w.alloc o) g t cs := (Below.heap_alloc w o g h.lt).trans h
theorem set (h : Blk w g t cs) (i : Nat) (u : Value) : Blk (w.setCell ⟨g, i, none⟩ u) g t (cs.setIfInBounds i u) := by
  unfold Blk at h ⊢
  simp [World.setCell, Array.getElem?_modify, h]
theorem far (h : Blk w g t cs) {p : Addr} (hp : g ≠ p.block) (u : Value) : Blk (w.setCell p u) g t cs := (Below.heap_setCell w p u g hp).trans h
theorem keeps {S : Nat → Prop} (h : Blk w g t cs) (hk : Keeps S w w') (hg : ¬ S g) : Blk w' g t cs := (hk.block g h.lt hg).trans h
theorem below {B : Nat} (h : Blk w g t cs) (hb : Below B w w') (hg : g < B) : Blk w' g t cs := (hb.block g hg).trans h
theorem ne {g' : Nat} {t' : TypeId} {cs' : Array Value} (h : Blk w g t cs) (h' : Blk w g' t' cs') (hne : t ≠ t') : g ≠ g' := by
  rintro rfl
  unfold Blk at h h'
  rw [h] at h'
  injection h' with h'
  injection h' with _ ht
  exact hne ht
end Blk

/-- An owned row lies in another block than one of another type. -/
theorem own_ne {w : World} {base : Nat} {e t : TypeId} {size n g : Nat} {v : Value} {xs : List Value} {cs : Array Value} (h : w.ownsRow base e size v n xs) (hg : Blk w g t cs) (hne : e ≠ t) : v.ownBlock ≠ some g := by
  rcases h.2 with ⟨rfl, _⟩ | ⟨g', cap, cur, rfl, _, hh, _⟩
  · simp [Value.ownBlock]
  · intro he
    have : g' = g := by simpa [Value.ownBlock] using he
    subst this
    exact Blk.ne (t := e) hh hg hne rfl

/-- Behind a law that leaves 'grownBy': an owned row that was not the one. -/
theorem own_keeps {w w' : World} {S : Nat → Prop} {base : Nat} {e : TypeId} {size n : Nat} {v : Value} {xs : List Value} (h : w.ownsRow base e size v n xs) (hk : Keeps S w w') (hne : ∀ g, v.ownBlock = some g → ¬ S g) : w'.ownsRow base e size v n xs := by
  refine ⟨h.1, ?_⟩
  rcases h.2 with hn | ⟨g, cap, cur, rfl, hb, hgg, rest⟩
  · exact .inl hn
  · refine .inr ⟨g, cap, cur, rfl, hb, ?_, rest⟩
    rw [hk.block g (Array.getElem?_eq_some_iff.1 hgg).1 (hne g rfl)]
    exact hgg
theorem own_base {w : World} {base base' : Nat} {e : TypeId} {size n : Nat} {v : Value} {xs : List Value} (h : w.ownsRow base e size v n xs) (hb : base' ≤ base) : w.ownsRow base' e size v n xs := by
  refine ⟨h.1, ?_⟩
  rcases h.2 with hn | ⟨g, cap, cur, rfl, hb', rest⟩
  · exact .inl hn
  · exact .inr ⟨g, cap, cur, rfl, by omega, rest⟩

theorem own_form {w : World} {base : Nat} {e : TypeId} {size n : Nat} {v : Value} {xs : List Value} (h : w.ownsRow base e size v n xs) : ∃ A c, v = .slice A n c ∧ n ≤ c ∧ (0 < n → ∃ g, A = some ⟨g, 0, none⟩ ∧ base ≤ g ∧ g < w.heap.size) := by
  rcases h.2 with ⟨rfl, rfl⟩ | ⟨g, cap, cur, rfl, hb, hgg, hc, rest⟩
  · exact ⟨none, 0, rfl, Nat.le_refl _, fun h => absurd h (by omega)⟩
  · exact ⟨_, _, rfl, hc, fun _ => ⟨g, rfl, hb, (Array.getElem?_eq_some_iff.1 hgg).1⟩⟩

/-- What the table says of a slice type t and its element type e, of one cell. -/
def Elem1 (P : Program) (t e : TypeId) (z : Value) (bytes : Nat) : Prop :=
  P.underlying t = some (.slice e) ∧ z.cells.size = 1 ∧ ∃ i, P.info? e = some i ∧ i.zero = some z ∧ i.size = 1 ∧ i.bytes = bytes

theorem Elem1.mk' {P : Program} {t e : TypeId} {z : Value} {bytes : Nat} (ht : P.underlying t = some (.slice e)) (hz : z.cells.size = 1) (h : (P.info? e).map (fun i => (i.zero, i.size, i.bytes)) = some (some z, 1, bytes)) : Elem1 P t e z bytes := by
  obtain ⟨i, hi, h0, h1, h2⟩ := info_parts h
  exact ⟨ht, hz, i, hi, h0, h1, h2⟩

section
variable {P : Program} {w : World} {t e ty : TypeId} {z : Value} {bytes base n m c : Nat} {v : Value} {xs : List Value} {D : Nat → Prop} {A : Option Addr} {f : Nat → Value}

theorem run_append_sl (he : Elem1 P t e z bytes) (hown : w.ownsRow base e 1 v n xs) (hsl : Sl w D A m f) (h1 : ∀ j, j < m → (f j).oneCell' = true)
    (h63 : n + m ≤ maxLen) (hbytes : (n + m) * bytes ≤ 140737488355328) (hbase : base ≤ w.heap.size) :
    ∃ v' w', (Builtin.append_ #[t, t] ty #[v, .slice A m c]).run P w = .ok v' w' ∧ w'.ownsRow base e 1 v' (n + m) (xs ++ (List.range m).map f) ∧ w.grownBy w' v.ownBlock ∧
      (v'.ownBlock = v.ownBlock ∨ v'.ownBlock = some w.heap.size) := by
  obtain ⟨ht, hz1, i, hi, hz, hs, hb⟩ := he
  rcases A with _ | ad
  · have hm : m = 0 := by
      rcases Nat.eq_zero_or_pos m with h0 | h0
      · exact h0
      · obtain ⟨b, off, h, _⟩ := hsl h0
        cases h
    subst hm
    refine ⟨v, w, ?_, by simpa using hown, World.grownBy.refl w _, .inl rfl⟩
    rcases hown.2 with ⟨rfl, rfl⟩ | ⟨g, cap, cur, rfl, _, _, hnc, _⟩
    · simp [Builtin.append_, run_underlying ht, sizeOf, typeInfo, hi, Builtin.lenOf, Builtin.firstCells]
    · simp [Builtin.append_, run_underlying ht, sizeOf, typeInfo, hi, Builtin.lenOf, Builtin.firstCells, hnc, storeCells]
  · have hcells : ∀ j u, ((List.range m).map f)[j]? = some u → w.cell? (ad.add j) = some u := by
      intro j u hu
      rcases Nat.eq_zero_or_pos m with h0 | h0
      · subst h0
        simp at hu
      · obtain ⟨b, off, h, _, hc⟩ := hsl h0
        injection h with h
        subst h
        rw [List.getElem?_map] at hu
        rcases Nat.lt_or_ge j m with hj | hj
        · rw [List.getElem?_range hj] at hu
          simp at hu
          subst hu
          have hadd : (⟨b, off, none⟩ : Addr).add j = ⟨b, off + j, none⟩ := by unfold Addr.add; split <;> simp_all
          rw [hadd]
          exact hc j hj
        · rw [List.getElem?_eq_none (by simpa using hj)] at hu
          cases hu
    obtain ⟨v', w', hrun, h2, h3, _, h5⟩ := run_append_own_at (P := P) w base t ty e i z 1 bytes ht hi hz hs hb hz1 (by omega) v n xs hown ad m c ((List.range m).map f) (by simp) hcells
      (by intro u hu; rw [List.mem_map] at hu; obtain ⟨j, hj, rfl⟩ := hu; exact h1 j (by simpa using hj)) h63 hbytes hbase
    exact ⟨v', w', hrun, h2, h3, h5⟩

theorem wp_append_sl {o : Oper} {a : Act} {K : Act → World → Prop} {Q : Exit → Act → World → Prop} (he : Elem1 P t e z bytes) (s x : Operand)
    (ho : o.op = .call { callee := .builtin .append, args := #[s, x], argTypes := #[t, t] }) (hs : a.eval s = v) (hx : a.eval x = .slice A m c)
    (hown : w.ownsRow base e 1 v n xs) (hsl : Sl w D A m f) (h1 : ∀ j, j < m → (f j).oneCell' = true)
    (h63 : n + m ≤ maxLen) (hbytes : (n + m) * bytes ≤ 140737488355328) (hbase : base ≤ w.heap.size)
    (h : ∀ v' w', w'.ownsRow base e 1 v' (n + m) (xs ++ (List.range m).map f) → w.grownBy w' v.ownBlock → (v'.ownBlock = v.ownBlock ∨ v'.ownBlock = some w.heap.size) → K (a.put o.dst v') w') : o.wp P a w K Q := by
  obtain ⟨v', w', hrun, h2, h3, h4⟩ := run_append_sl (P := P) (ty := o.type) (c := c) he hown hsl h1 h63 hbytes hbase
  unfold Oper.wp execOp
  simp only [ho, resolve, invoke, builtin, Sem.run_bind, Sem.run_pure, Result.andThen_ok, List.map_toArray, List.map_cons, List.map_nil, hs, hx, hrun]
  exact h v' w' h2 h3 h4

theorem wpList_append_sl {ops : Array Oper} {rest : List Oper} {o : Oper} {a : Act} {Q : Exit → Act → World → Prop} (he : Elem1 P t e z bytes) (hgd : o.guard = none) (s x : Operand)
    (ho : o.op = .call { callee := .builtin .append, args := #[s, x], argTypes := #[t, t] }) (hs : a.eval s = v) (hx : a.eval x = .slice A m c)
    (hown : w.ownsRow base e 1 v n xs) (hsl : Sl w D A m f) (h1 : ∀ j, j < m → (f j).oneCell' = true)
    (h63 : n + m ≤ maxLen) (hbytes : (n + m) * bytes ≤ 140737488355328) (hbase : base ≤ w.heap.size)
    (h : ∀ v' w', w'.ownsRow base e 1 v' (n + m) (xs ++ (List.range m).map f) → w.grownBy w' v.ownBlock → (v'.ownBlock = v.ownBlock ∨ v'.ownBlock = some w.heap.size) → wpList P ops Q rest (a.put o.dst v') w') : wpList P ops Q (o :: rest) a w :=
  wpList_plain hgd fun _ hK => wp_append_sl he s x ho hs hx hown hsl h1 h63 hbytes hbase fun v' w' h2 h3 h4 => hK _ _ (h v' w' h2 h3 h4)

theorem step_append_sl {ops : Array Oper} {o : Oper} {a : Act} {K : Act → World → Prop} {Q : Exit → Act → World → Prop} {E : Prop} (he : Elem1 P t e z bytes) (hgd : o.guard = none) (s x : Operand)
    (ho : o.op = .call { callee := .builtin .append, args := #[s, x], argTypes := #[t, t] }) (hs : a.eval s = v) (hx : a.eval x = .slice A m c)
    (hown : w.ownsRow base e 1 v n xs) (hsl : Sl w D A m f) (h1 : ∀ j, j < m → (f j).oneCell' = true)
    (h63 : n + m ≤ maxLen) (hbytes : (n + m) * bytes ≤ 140737488355328) (hbase : base ≤ w.heap.size)
    (h : ∀ v' w', w'.ownsRow base e 1 v' (n + m) (xs ++ (List.range m).map f) → w.grownBy w' v.ownBlock → (v'.ownBlock = v.ownBlock ∨ v'.ownBlock = some w.heap.size) → K (a.put o.dst v') w') :
    if Region.wanted o (yielded ops a.tmps) = true then Oper.wp P o a w K Q else E := by
  have hw : Region.wanted o (yielded ops a.tmps) = true := by simp [Region.wanted, hgd]
  rw [if_pos hw]
  exact wp_append_sl he s x ho hs hx hown hsl h1 h63 hbytes hbase h
end

/-- A new block of one cell is a slice of one element. -/
theorem sl_one (w : World) (t : TypeId) (u : Value) : Sl (w.alloc (.cells #[u] t)) (fun k => k = w.heap.size) (some ⟨w.heap.size, 0, none⟩) 1 (fun _ => u) := fun _ =>
  ⟨_, _, rfl, rfl, fun j hj => by
    obtain rfl : j = 0 := by omega
    rw [(Blk.fresh w t #[u]).cell (0 + 0)]
    rfl⟩
end Go.Proofs.YtboecnakndpgfaaDoor
namespace Go.Proofs.YtboecnakndpgfaaDoor
open Go.RowKit
/-- A slice of integers that came in: nil, or a row of cap cells, the numbers zs. -/
def IsRow (k : IntKind) (w : World) (a : Option Addr) (len cap : Nat) (zs : List Int) : Prop :=
  (a = none ∧ len = 0 ∧ cap = 0 ∧ zs = []) ∨
  ∃ x, a = some x ∧ len ≤ cap ∧ cap ≤ maxLen ∧ zs.length = cap ∧ (∀ i, i < zs.length → w.cell? (x.add i) = some (.int k (zs.getD i 0))) ∧ ∀ n ∈ zs, (Lit.int k n).wf = true
/-- The bytes of a list as cells. -/
def byteC (bs : List Nat) (j : Nat) : Value := .int .u8 ((bs.getD j 0 : Nat) : Int)
def intC (xs : List Int) (j : Nat) : Value := .int .i64 (xs.getD j 0)
theorem IsRow.le {k : IntKind} {w : World} {a : Option Addr} {len cap : Nat} {zs : List Int} (h : IsRow k w a len cap zs) : len ≤ cap ∧ cap ≤ 9223372036854775807 ∧ zs.length = cap := by
  rcases h with ⟨rfl, rfl, rfl, rfl⟩ | ⟨x, rfl, hl, hm, hz, -, -⟩
  · simp
  · unfold maxLen at hm
    omega
theorem IsRow.sl {k : IntKind} {w : World} {a : Option Addr} {len cap : Nat} {zs : List Int} (h : IsRow k w a len cap zs) (m : Nat) (hm : m ≤ len) : Sl w (fun x => x < w.heap.size) a m (fun j => .int k (zs.getD j 0)) := by
  intro h0
  rcases h with ⟨rfl, rfl, rfl, rfl⟩ | ⟨x, rfl, hl, hm, hz, hcell, -⟩
  · omega
  · obtain ⟨b, off, spot⟩ := x
    have hc := hcell 0 (by omega)
    have hspot : spot = none := by simpa [Addr.add] using World.cell?_spot hc
    subst hspot
    have hadd : ∀ j, (⟨b, off, none⟩ : Addr).add j = ⟨b, off + j, none⟩ := fun j => by unfold Addr.add; split <;> simp_all
    refine ⟨b, off, rfl, World.block_lt_of_cell? w _ hc, fun j hj => ?_⟩
    rw [← hadd]
    exact hcell j (by omega)
theorem IsRow.wf {k : IntKind} {w : World} {a : Option Addr} {len cap : Nat} {zs : List Int} (h : IsRow k w a len cap zs) (j : Nat) (hj : j < len) : (Lit.int k (zs.getD j 0)).wf = true := by
  have h1 := h.le
  rcases h with ⟨rfl, rfl, rfl, rfl⟩ | ⟨x, rfl, hl, hm, hz, -, hw⟩
  · omega
  · rw [List.getD_eq_getElem?_getD, List.getElem?_eq_getElem (by omega)]
    exact hw _ (List.getElem_mem _)
theorem wf_u8 {z : Int} (h : (Lit.int .u8 z).wf = true) : 0 ≤ z ∧ z < 256 := by
  simp [Lit.wf, IntKind.min, IntKind.max, IntKind.signed, IntKind.bits] at h
  omega
theorem wf_i64 {z : Int} (h : (Lit.int .i64 z).wf = true) : -9223372036854775808 ≤ z ∧ z ≤ 9223372036854775807 := by
  simp [Lit.wf, IntKind.min, IntKind.max, IntKind.signed, IntKind.bits] at h
  omega
theorem IsRow.bytes {w : World} {a : Option Addr} {len cap : Nat} {zs : List Int} (h : IsRow .u8 w a len cap zs) (m : Nat) (hm : m ≤ len) :
    ∃ bs : List Nat, bs.length = m ∧ (∀ j, bs.getD j 0 < 256) ∧ Sl w (fun x => x < w.heap.size) a m (byteC bs) := by
  have h1 := h.le
  refine ⟨(zs.take m).map Int.toNat, by simp; omega, fun j => ?_, (h.sl m hm).congr fun j hj => ?_⟩
  · rw [List.getD_eq_getElem?_getD, List.getElem?_map]
    rcases Nat.lt_or_ge j m with hj | hj
    · rw [List.getElem?_take_of_lt hj]
      have := wf_u8 (h.wf j (by omega))
      rw [List.getD_eq_getElem?_getD] at this
      cases hz : zs[j]? with
      | none => simp
      | some z => rw [hz] at this; simp at this ⊢; omega
    · rw [List.getElem?_eq_none (by simp; omega)]
      simp
  · have := wf_u8 (h.wf j (by omega))
    unfold byteC
    rw [List.getD_eq_getElem?_getD, List.getD_eq_getElem?_getD, List.getElem?_map, List.getElem?_take_of_lt hj]
    rw [List.getD_eq_getElem?_getD] at this
    rw [List.getElem?_eq_getElem (by omega)] at this ⊢
    simp at this ⊢
    omega
theorem IsRow.ints {w : World} {a : Option Addr} {len cap : Nat} {zs : List Int} (h : IsRow .i64 w a len cap zs) (m : Nat) (hm : m ≤ len) :
    ∃ xs : List Int, xs.length = m ∧ (∀ j, -9223372036854775808 ≤ xs.getD j 0 ∧ xs.getD j 0 ≤ 9223372036854775807) ∧ Sl w (fun x => x < w.heap.size) a m (intC xs) := by
  have h1 := h.le
  have hg : ∀ j, j < m → (zs.take m).getD j 0 = zs.getD j 0 := fun j hj => by
    rw [List.getD_eq_getElem?_getD, List.getD_eq_getElem?_getD, List.getElem?_take_of_lt hj]
  refine ⟨zs.take m, by simp; omega, fun j => ?_, (h.sl m hm).congr fun j hj => ?_⟩
  · rcases Nat.lt_or_ge j m with hj | hj
    · rw [hg j hj]
      exact wf_i64 (h.wf j (by omega))
    · rw [List.getD_eq_getElem?_getD, List.getElem?_eq_none (by simp; omega)]
      simp
  · unfold intC
    rw [hg j hj]
end Go.Proofs.YtboecnakndpgfaaDoor
namespace Go.Proofs.YtboecnakndpgfaaDoor
section
variable {P : Program} {ops : Array Oper} {Q : Exit → Act → World → Prop} {S S' : World → Prop}
theorem wpAnyH_more (himp : ∀ w, S' w → S w) : ∀ (fuel : Nat) (listed : Array Bool) (a : Act) (w : World), wpAnyH P .any ops Q S' fuel listed a w → wpAnyH P .any ops Q S fuel listed a w
  | 0, _, _, _, h => h
  | fuel + 1, _, _, _, h => ⟨h.1, fun i hi => wpOp_mono (fun a' w' h' => ⟨himp _ h'.1, wpAnyH_more himp fuel _ a' w' h'.2⟩) (h.2 i hi)⟩
/-- The world under another name. -/
theorem wp_gen {c : Code} {a : Act} {w : World} (S : World → Prop) (hS : S w) (h : ∀ w, S w → c.wp P Q a w) : c.wp P Q a w := h w hS
theorem reg_start {id : Nat} {a : Act} {w : World} (S : World → Prop) (hm : P.follows .mixedOrders = true) (hS : S w.drew)
    (h : wpAnyH P .any ops Q S ops.size (Array.replicate ops.size false) a w.drew) : (Code.region id ops true).wp P Q a w :=
  wp_region_held_drew hm hS (fun _ => h)
theorem reg_take {i : Nat} {oi : Oper} {v : Value} {fuel : Nat} {listed : Array Bool} {a : Act} {w : World} (hi : ops[i]? = some oi)
    (hs : Region.noSelect ops = true) (hf : Region.free .any ops listed i = true) (hr : (Region.ready .any ops listed).contains i = true)
    (hQ : ∀ c a w, Q (.panic c) (a.put oi.dst v) w → Q (.panic c) a w) (hy : YieldsIf P ops S oi v a) (hS : S w)
    (h : wpAnyH P .any ops Q S fuel (listed.setIfInBounds i true) (a.put oi.dst v) w) : wpAnyH P .any ops Q S (fuel + 1) listed a w :=
  wpAnyH_take hi hs hf hr hQ hy hS h
/-- Behind a call: what follows, with whatever holds from there on. -/
def Then (P : Program) (ops : Array Oper) (Q : Exit → Act → World → Prop) (S : World → Prop) (fuel : Nat) (listed : Array Bool) (K : Act → World → Prop) : Prop :=
  ∀ (S' : World → Prop) (a : Act) (w : World), (∀ w, S' w → S w) → S' w → wpAnyH P .any ops Q S' fuel listed a w → K a w
theorem Then.to {fuel : Nat} {listed : Array Bool} {K : Act → World → Prop} (h : Then P ops Q S fuel listed K) (S' : World → Prop) {a : Act} {w : World} (himp : ∀ w, S' w → S w) (hS : S' w) (k : wpAnyH P .any ops Q S' fuel listed a w) : K a w := h S' a w himp hS k
theorem Then.go {fuel : Nat} {listed : Array Bool} {K : Act → World → Prop} (h : Then P ops Q S fuel listed K) (S' : World → Prop) {a : Act} {w : World} (himp : ∀ w, S' w → S w) (hS : S' w) (k : ∀ w, S' w → wpAnyH P .any ops Q S' fuel listed a w) : K a w := h S' a w himp hS (k w hS)
theorem reg_call {i : Nat} {o : Oper} {fuel : Nat} {listed : Array Bool} {a : Act} {w : World} (ho : ops[i]? = some o) (hr : Region.ready .any ops listed = [i])
    (h : ∀ K : Act → World → Prop, Then P ops Q S fuel (listed.setIfInBounds i true) K → if Region.wanted o (yielded ops a.tmps) = true then Oper.wp P o a w K Q else K (a.put o.dst undef) w) :
    wpAnyH P .any ops Q S (fuel + 1) listed a w :=
  wpAnyH_ready hr (by simp) (AllReadyH.cons ho (fun K hK => h K (fun _ a w himp hS hW => hK.out a w (himp _ hS) (fun _ => wpAnyH_more himp _ _ _ _ hW))) AllReadyH.nil)
theorem reg_two {i j : Nat} {o o' : Oper} {fuel : Nat} {listed : Array Bool} {a : Act} {w : World} (ho : ops[i]? = some o) (ho' : ops[j]? = some o') (hr : Region.ready .any ops listed = [i, j])
    (h : ∀ K : Act → World → Prop, Then P ops Q S fuel (listed.setIfInBounds i true) K → if Region.wanted o (yielded ops a.tmps) = true then Oper.wp P o a w K Q else K (a.put o.dst undef) w)
    (h' : ∀ K : Act → World → Prop, Then P ops Q S fuel (listed.setIfInBounds j true) K → if Region.wanted o' (yielded ops a.tmps) = true then Oper.wp P o' a w K Q else K (a.put o'.dst undef) w) :
    wpAnyH P .any ops Q S (fuel + 1) listed a w :=
  wpAnyH_ready hr (by simp) (AllReadyH.cons ho (fun K hK => h K (fun _ a w himp hS hW => hK.out a w (himp _ hS) (fun _ => wpAnyH_more himp _ _ _ _ hW)))
    (AllReadyH.cons ho' (fun K hK => h' K (fun _ a w himp hS hW => hK.out a w (himp _ hS) (fun _ => wpAnyH_more himp _ _ _ _ hW))) AllReadyH.nil))
end
end Go.Proofs.YtboecnakndpgfaaDoor
namespace Go.Proofs.YtboecnakndpgfaaDoor
section
variable {P : Program} {ops : Array Oper} {Q : Exit → Act → World → Prop} {S : World → Prop}
def YieldsC (P : Program) (ops : Array Oper) (S : World → Prop) (o : Oper) (v : Value) (a : Act) : Prop :=
  Region.wanted o (yielded ops a.tmps) = true ∧ ∃ f args, (∀ w, (execOp a.eval o).run P w = .ok (.enter f args) w) ∧ ∀ w, S w → Calls P f args w (fun e w' => e = .returned v ∧ S w')
theorem YieldsC.wpOp {i : Nat} {o : Oper} {v : Value} {a : Act} (hi : ops[i]? = some o) (hy : YieldsC P ops S o v a) {K : Act → World → Prop} {w : World} (hS : S w) (h : ∀ w', S w' → K (a.put o.dst v) w') : wpOp P ops Q i K a w := by
  obtain ⟨hw, f, args, hr, hc⟩ := hy
  unfold Go.wpOp
  simp only [hi, hw, if_true, Oper.wp, hr w, Oper.upon]
  refine .inl ((hc w hS).mono ?_)
  rintro e w' ⟨rfl, hS'⟩
  exact h w' hS'
theorem YieldsC.put {o o' : Oper} {v u : Value} {a : Act} (hy : YieldsC P ops S o v a) (hs : ∀ cs b, o.op ≠ .select cs b) (h : ∀ d, o'.dst = some d → d ∉ o.looksAt ops) : YieldsC P ops S o v (a.put o'.dst u) := by
  unfold YieldsC at *
  rw [execOp_put o hs a o'.dst u h, wanted_put o a o'.dst u h]
  exact hy
theorem reg_pair {i j : Nat} {o o' : Oper} {v v' : Value} {fuel : Nat} {listed : Array Bool} {a : Act} (ho : ops[i]? = some o) (ho' : ops[j]? = some o') (hs : Region.noSelect ops = true)
    (hap : o.apart ops o' = true) (hij : j ≠ i)
    (hr : Region.ready .any ops listed = [i, j]) (hri : Region.ready .any ops (listed.setIfInBounds i true) = [j]) (hrj : Region.ready .any ops (listed.setIfInBounds j true) = [i])
    (hy : YieldsC P ops S o v a) (hy' : YieldsC P ops S o' v' a)
    (h : ∀ w, S w → wpAnyH P .any ops Q S fuel ((listed.setIfInBounds i true).setIfInBounds j true) ((a.put o.dst v).put o'.dst v') w) : ∀ w, S w → wpAnyH P .any ops Q S (fuel + 2) listed a w := by
  intro w hS
  obtain ⟨h1, h2, h3⟩ := Oper.apart_spec hap
  have s1 := fun cs b => Region.noSelect_spec hs i o cs b ho
  have s2 := fun cs b => Region.noSelect_spec hs j o' cs b ho'
  refine wpAnyH_all hr (by simp) ?_
  intro k hk
  rcases (show k = i ∨ k = j by simpa using hk) with rfl | rfl
  · refine hy.wpOp ho hS fun w1 hS1 => ⟨hS1, wpAnyH_all hri (by simp) ?_⟩
    intro k hk
    obtain rfl : k = j := by simpa using hk
    exact (hy'.put s2 h1).wpOp ho' hS1 fun w2 hS2 => ⟨hS2, h w2 hS2⟩
  · refine hy'.wpOp ho' hS fun w1 hS1 => ⟨hS1, wpAnyH_all hrj (by simp) ?_⟩
    intro k hk
    obtain rfl : k = i := by simpa using hk
    refine (hy.put s1 h3).wpOp ho hS1 fun w2 hS2 => ⟨hS2, ?_⟩
    rw [← Act.put_comm a v v' h2, Array.setIfInBounds_comm _ _ hij]
    exact h w2 hS2
theorem reg_three {i j k : Nat} {o o' o'' : Oper} {v v' v'' : Value} {fuel : Nat} {listed : Array Bool} {a : Act} (ho : ops[i]? = some o) (ho' : ops[j]? = some o') (ho'' : ops[k]? = some o'') (hs : Region.noSelect ops = true)
    (hap : o.apart ops o' = true) (hap' : o.apart ops o'' = true) (hap'' : o'.apart ops o'' = true) (hij : j ≠ i) (hik : k ≠ i) (hjk : k ≠ j)
    (hr : Region.ready .any ops listed = [i, j, k])
    (hri : Region.ready .any ops (listed.setIfInBounds i true) = [j, k]) (hrj : Region.ready .any ops (listed.setIfInBounds j true) = [i, k]) (hrk : Region.ready .any ops (listed.setIfInBounds k true) = [i, j])
    (hrij : Region.ready .any ops ((listed.setIfInBounds i true).setIfInBounds j true) = [k]) (hrik : Region.ready .any ops ((listed.setIfInBounds i true).setIfInBounds k true) = [j]) (hrjk : Region.ready .any ops ((listed.setIfInBounds j true).setIfInBounds k true) = [i])
    (hy : YieldsC P ops S o v a) (hy' : YieldsC P ops S o' v' a) (hy'' : YieldsC P ops S o'' v'' a)
    (h : ∀ w, S w → wpAnyH P .any ops Q S fuel (((listed.setIfInBounds i true).setIfInBounds j true).setIfInBounds k true) (((a.put o.dst v).put o'.dst v').put o''.dst v'') w) : ∀ w, S w → wpAnyH P .any ops Q S (fuel + 2 + 1) listed a w := by
  intro w hS
  obtain ⟨h1, h2, h3⟩ := Oper.apart_spec hap
  obtain ⟨g1, g2, g3⟩ := Oper.apart_spec hap'
  obtain ⟨f1, f2, f3⟩ := Oper.apart_spec hap''
  have s1 := fun cs b => Region.noSelect_spec hs i o cs b ho
  have s2 := fun cs b => Region.noSelect_spec hs j o' cs b ho'
  have s3 := fun cs b => Region.noSelect_spec hs k o'' cs b ho''
  refine wpAnyH_all hr (by simp) ?_
  intro m hm
  rcases (show m = i ∨ m = j ∨ m = k by simpa using hm) with rfl | rfl | rfl
  · refine hy.wpOp ho hS fun w1 hS1 => ⟨hS1, reg_pair ho' ho'' hs hap'' hjk hri hrij hrik (hy'.put s2 h1) (hy''.put s3 g1) h w1 hS1⟩
  · refine hy'.wpOp ho' hS fun w1 hS1 => ⟨hS1, reg_pair ho ho'' hs hap' hik hrj ?_ hrjk (hy.put s1 h3) (hy''.put s3 f1) ?_ w1 hS1⟩
    · rw [Array.setIfInBounds_comm _ _ hij]; exact hrij
    · rw [Array.setIfInBounds_comm _ _ hij, ← Act.put_comm a v v' h2]
      exact h
  · refine hy''.wpOp ho'' hS fun w1 hS1 => ⟨hS1, reg_pair ho ho' hs hap hij hrk ?_ ?_ (hy.put s1 g3) (hy'.put s2 f3) ?_ w1 hS1⟩
    · rw [Array.setIfInBounds_comm _ _ hik]; exact hrik
    · rw [Array.setIfInBounds_comm _ _ hjk]; exact hrjk
    · rw [Array.setIfInBounds_comm _ _ hik, Array.setIfInBounds_comm (xs := listed.setIfInBounds i true) _ _ hjk, ← Act.put_comm a v v'' g2, ← Act.put_comm (a.put o.dst v) v' v'' f2]
      exact h
end
end Go.Proofs.YtboecnakndpgfaaDoor
namespace Go.Proofs.YtboecnakndpgfaaDoor
open Go.RowKit
theorem perm_front {α : Type} : ∀ (L : List α) (i : Nat) (h : i < L.length), L.Perm (L[i] :: L.eraseIdx i)
  | _ :: _, 0, _ => List.Perm.refl _
  | a :: l, i + 1, h => ((perm_front l i (by simpa using h)).cons a).trans (List.Perm.swap _ _ _)
/-- w is w0 but for new blocks; those of L (number, type, cells), no two of one number, are known whole. -/
structure Own (w0 : World) (L : List (Nat × TypeId × Array Value)) (w : World) : Prop where
  bel : Below w0.heap.size w0 w
  blk : ∀ b ∈ L, w0.heap.size ≤ b.1 ∧ Blk w b.1 b.2.1 b.2.2
  nd : L.Pairwise (fun a b => a.1 ≠ b.1)
namespace Own
variable {w0 w w' : World} {L : List (Nat × TypeId × Array Value)} {g : Nat} {t : TypeId} {cs : Array Value}
theorem start (w : World) : Own w [] w := ⟨Below.refl _ _, fun _ h => (List.not_mem_nil h).elim, List.Pairwise.nil⟩
theorem lt (h : Own w0 L w) : ∀ b ∈ L, b.1 < w.heap.size := fun b hb => (h.blk b hb).2.lt
theorem size (h : Own w0 L w) : w0.heap.size ≤ w.heap.size := h.bel.size
theorem alloc (h : Own w0 L w) (hg : g = w.heap.size) (t : TypeId) (cs : Array Value) : Own w0 (L ++ [(g, t, cs)]) (w.alloc (.cells cs t)) := by
  subst hg
  refine ⟨h.bel.alloc h.bel.size _, ?_, ?_⟩
  · intro b hb
    rcases List.mem_append.1 hb with hb | hb
    · exact ⟨(h.blk b hb).1, (h.blk b hb).2.alloc _⟩
    · obtain rfl := List.mem_singleton.1 hb
      exact ⟨h.bel.size, Blk.fresh _ _ _⟩
  · refine List.pairwise_append.2 ⟨h.nd, List.pairwise_singleton _ _, ?_⟩
    intro a ha b hb
    obtain rfl := List.mem_singleton.1 hb
    exact Nat.ne_of_lt (h.lt a ha)
theorem call (h : Own w0 L w) (hb : Below w.heap.size w w') : Own w0 L w' :=
  ⟨h.bel.trans (hb.mono h.bel.size), fun b hm => ⟨(h.blk b hm).1, (h.blk b hm).2.below hb (h.lt b hm)⟩, h.nd⟩
theorem drew (h : Own w0 L w) : Own w0 L w.drew := h.call (Below.refl _ _).drew
theorem drewN (h : Own w0 L w) (n : Nat) : Own w0 L (w.drewN n) := h.call ((Keeps.refl (fun _ => False) w).drewN n).to_below
theorem cell (h : Own w0 L w) (i j : Nat) {v : Value} (hi : L[i]? = some (g, t, cs)) (hj : cs.toList[j]? = some v) : w.cell? ⟨g, j, none⟩ = some v := by
  have hb := (h.blk _ (List.mem_of_getElem? hi)).2
  rw [hb.cell j, ← Array.getElem?_toList]
  exact hj
theorem free (h : Own w0 L w) (i : Nat) (hi : L[i]? = some (g, t, cs)) : ∀ j, w.frozen? ⟨g, j, none⟩ = false :=
  ((h.blk _ (List.mem_of_getElem? hi)).2).frozen
theorem get (h : Own w0 L w) (i : Nat) (hi : L[i]? = some (g, t, cs)) : Blk w g t cs := (h.blk _ (List.mem_of_getElem? hi)).2
theorem geq (h : Own w0 L w) (i : Nat) (hi : L[i]? = some (g, t, cs)) : w0.heap.size ≤ g := (h.blk _ (List.mem_of_getElem? hi)).1
theorem ne (h : Own w0 L w) {i j g' : Nat} {t' : TypeId} {cs' : Array Value} (hi : L[i]? = some (g, t, cs)) (hj : L[j]? = some (g', t', cs')) (hij : i ≠ j) : g ≠ g' := by
  have hl := List.getElem?_eq_some_iff.1 hi
  have hl' := List.getElem?_eq_some_iff.1 hj
  obtain ⟨hi1, hi2⟩ := hl
  obtain ⟨hj1, hj2⟩ := hl'
  have hp := List.pairwise_iff_getElem.1 h.nd
  rcases Nat.lt_or_gt_of_ne hij with hlt | hlt
  · have := hp i j hi1 hj1 hlt
    rw [hi2, hj2] at this
    exact this
  · have := hp j i hj1 hi1 hlt
    rw [hi2, hj2] at this
    exact fun e => this e.symm
theorem set (h : Own w0 L w) (i j : Nat) (hi : L[i]? = some (g, t, cs)) (v : Value) : Own w0 (L.set i (g, t, cs.setIfInBounds j v)) (w.setCell ⟨g, j, none⟩ v) := by
  refine ⟨h.bel.setCell (p := ⟨g, j, none⟩) (h.geq i hi) v, ?_, ?_⟩
  · intro b hb
    obtain ⟨k, hk⟩ := List.mem_iff_getElem?.1 hb
    by_cases hki : i = k
    · subst hki
      have hlen : i < L.length := (List.getElem?_eq_some_iff.1 hi).1
      rw [List.getElem?_set_self hlen] at hk
      injection hk with hk
      subst hk
      exact ⟨h.geq i hi, (h.get i hi).set j v⟩
    · rw [List.getElem?_set_ne hki] at hk
      obtain ⟨g', t', cs'⟩ := b
      exact ⟨h.geq k hk, (h.get k hk).far (p := ⟨g, j, none⟩) (h.ne hk hi (fun e => hki e.symm)) v⟩
  · have e : (L.set i (g, t, cs.setIfInBounds j v)).map (fun a => a.1) = L.map (fun a => a.1) := by
      apply List.ext_getElem?
      intro k
      rw [List.getElem?_map, List.getElem?_map]
      by_cases hki : i = k
      · subst hki
        have hlen : i < L.length := (List.getElem?_eq_some_iff.1 hi).1
        rw [List.getElem?_set_self hlen, hi]
        rfl
      · rw [List.getElem?_set_ne hki]
    have h1 : (L.map (fun a => a.1)).Pairwise (· ≠ ·) := List.pairwise_map.2 h.nd
    rw [← e] at h1
    exact List.pairwise_map.1 h1
theorem sub {M : List (Nat × TypeId × Array Value)} (h : Own w0 L w) (hs : M.Sublist L) : Own w0 M w := ⟨h.bel, fun b hb => h.blk b (hs.subset hb), h.nd.sublist hs⟩
theorem take (h : Own w0 L w) (n : Nat) : Own w0 (L.take n) w := h.sub (List.take_sublist n L)
theorem front (h : Own w0 L w) (i : Nat) {b : Nat × TypeId × Array Value} (hi : L[i]? = some b) : Own w0 (b :: L.eraseIdx i) w := by
  obtain ⟨hl, rfl⟩ := List.getElem?_eq_some_iff.1 hi
  have hp : L.Perm (L[i] :: L.eraseIdx i) := perm_front L i hl
  exact ⟨h.bel, fun b hb => h.blk b (hp.mem_iff.2 hb), (hp.pairwise_iff (fun e e' => e e'.symm)).1 h.nd⟩
theorem keeps (h : Own w0 L w) : Keeps (fun _ => False) w0 w := Keeps.of_below h.bel
theorem own1 (w : World) {x : Nat} (hx : x = w.heap.size) (t : TypeId) (c : Array Value) : Own w [(x, t, c)] (w.alloc (.cells c t)) := (start w).alloc hx t c
theorem own2 (w : World) {x : Nat} (hx : x = w.heap.size) (t : TypeId) (c : Array Value) (t1 : TypeId) (c1 : Array Value) : Own w [(x, t, c), (x + 1, t1, c1)] ((w.alloc (.cells c t)).alloc (.cells c1 t1)) :=
  (own1 w hx t c).alloc (by simp [hx]) t1 c1
theorem own3 (w : World) {x : Nat} (hx : x = w.heap.size) (t : TypeId) (c : Array Value) (t1 : TypeId) (c1 : Array Value) (t2 : TypeId) (c2 : Array Value) :
    Own w [(x, t, c), (x + 1, t1, c1), (x + 1 + 1, t2, c2)] (((w.alloc (.cells c t)).alloc (.cells c1 t1)).alloc (.cells c2 t2)) :=
  (own2 w hx t c t1 c1).alloc (by simp [hx]) t2 c2
theorem own4 (w : World) {x : Nat} (hx : x = w.heap.size) (t : TypeId) (c : Array Value) (t1 : TypeId) (c1 : Array Value) (t2 : TypeId) (c2 : Array Value) (t3 : TypeId) (c3 : Array Value) :
    Own w [(x, t, c), (x + 1, t1, c1), (x + 1 + 1, t2, c2), (x + 1 + 1 + 1, t3, c3)] ((((w.alloc (.cells c t)).alloc (.cells c1 t1)).alloc (.cells c2 t2)).alloc (.cells c3 t3)) :=
  (own3 w hx t c t1 c1 t2 c2).alloc (by simp [hx]) t3 c3
end Own
/-- The cells of block g from k on are written, one behind the other. -/
def setFrom (w : World) (g k : Nat) : List Value → World
  | [] => w
  | v :: vs => setFrom (w.setCell ⟨g, k, none⟩ v) g (k + 1) vs
def setArr (cs : Array Value) (k : Nat) : List Value → Array Value
  | [] => cs
  | v :: vs => setArr (cs.setIfInBounds k v) (k + 1) vs
theorem setArr_size : ∀ (vs : List Value) (k : Nat) (cs : Array Value), (setArr cs k vs).size = cs.size
  | [], _, _ => rfl
  | v :: vs, k, cs => by unfold setArr; rw [setArr_size vs]; simp
theorem setArr_low : ∀ (vs : List Value) (k : Nat) (cs : Array Value) (i : Nat), i < k → (setArr cs k vs)[i]? = cs[i]?
  | [], _, _, _, _ => rfl
  | v :: vs, k, cs, i, h => by
    unfold setArr
    rw [setArr_low vs (k + 1) _ i (by omega), Array.getElem?_setIfInBounds]
    rw [if_neg (by omega)]
theorem setArr_get : ∀ (vs : List Value) (k : Nat) (cs : Array Value) (i : Nat), k + vs.length ≤ cs.size → (setArr cs k vs)[k + i]? = if i < vs.length then vs[i]? else cs[k + i]?
  | [], _, _, _, _ => by simp [setArr]
  | v :: vs, k, cs, 0, h => by
    unfold setArr
    simp at h
    rw [setArr_low vs (k + 1) _ (k + 0) (by omega), Array.getElem?_setIfInBounds]
    simp
    omega
  | v :: vs, k, cs, i + 1, h => by
    unfold setArr
    simp at h
    have := setArr_get vs (k + 1) (cs.setIfInBounds k v) i (by simp; omega)
    have e : k + (i + 1) = k + 1 + i := by omega
    rw [e, this]
    simp only [List.length_cons, Nat.add_lt_add_iff_right, List.getElem?_cons_succ]
    have e2 : (cs.setIfInBounds k v)[k + 1 + i]? = cs[k + 1 + i]? := by rw [Array.getElem?_setIfInBounds, if_neg (show ¬ k = k + 1 + i by omega)]
    rw [e2]
theorem Own.setFrom_own {w0 : World} {L : List (Nat × TypeId × Array Value)} {g : Nat} {t : TypeId} : ∀ (vs : List Value) (k : Nat) (w : World) (cs : Array Value), Own w0 ((g, t, cs) :: L) w → Own w0 ((g, t, setArr cs k vs) :: L) (setFrom w g k vs)
  | [], _, _, _, h => h
  | v :: vs, k, _, _, h => Own.setFrom_own vs (k + 1) _ _ (h.set 0 k rfl v)
/-- .. and block g, of n cells, may be written. -/
def OwnR (w0 : World) (g : Nat) (t : TypeId) (n : Nat) (L : List (Nat × TypeId × Array Value)) (w : World) : Prop := ∃ cs : Array Value, cs.size = n ∧ Own w0 ((g, t, cs) :: L) w
namespace OwnR
variable {w0 w w' : World} {L : List (Nat × TypeId × Array Value)} {g n : Nat} {t : TypeId} {cs : Array Value}
theorem of (h : Own w0 ((g, t, cs) :: L) w) (hn : cs.size = n) : OwnR w0 g t n L w := ⟨cs, hn, h⟩
theorem call (h : OwnR w0 g t n L w) (hb : Below w.heap.size w w') : OwnR w0 g t n L w' := by
  obtain ⟨cs, hn, ho⟩ := h
  exact ⟨cs, hn, ho.call hb⟩
theorem rest (h : OwnR w0 g t n L w) : Own w0 L w := by
  obtain ⟨cs, hn, ho⟩ := h
  exact ho.sub (List.sublist_cons_self _ _)
theorem put (h : OwnR w0 g t n L w) (vs : List Value) (hl : vs.length = n) : Own w0 ((g, t, vs.toArray) :: L) (setFrom w g 0 vs) := by
  obtain ⟨cs, hn, ho⟩ := h
  have := Own.setFrom_own vs 0 w cs ho
  have e : setArr cs 0 vs = vs.toArray := by
    apply Array.ext
    · rw [setArr_size]; simp [hn, hl]
    · intro i h1 h2
      have h3 : i < vs.length := by simpa using h2
      have := setArr_get vs 0 cs i (by omega)
      rw [Nat.zero_add, Array.getElem?_eq_getElem h1, if_pos h3, List.getElem?_eq_getElem h3] at this
      exact Option.some.inj this
  rw [e] at this
  exact this
theorem one (h : OwnR w0 g t 1 L w) : ∃ a, Own w0 ((g, t, #[a]) :: L) w := by
  obtain ⟨⟨cs⟩, hn, ho⟩ := h
  obtain _ | ⟨a, _ | ⟨b, cs⟩⟩ := cs <;> simp at hn
  exact ⟨a, ho⟩
theorem two (h : OwnR w0 g t 2 L w) : ∃ a b, Own w0 ((g, t, #[a, b]) :: L) w := by
  obtain ⟨⟨cs⟩, hn, ho⟩ := h
  obtain _ | ⟨a, _ | ⟨b, _ | ⟨c, cs⟩⟩⟩ := cs <;> simp at hn
  exact ⟨a, b, ho⟩
theorem three (h : OwnR w0 g t 3 L w) : ∃ a b c, Own w0 ((g, t, #[a, b, c]) :: L) w := by
  obtain ⟨⟨cs⟩, hn, ho⟩ := h
  obtain _ | ⟨a, _ | ⟨b, _ | ⟨c, _ | ⟨d, cs⟩⟩⟩⟩ := cs <;> simp at hn
  exact ⟨a, b, c, ho⟩
theorem eight (h : OwnR w0 g t 8 L w) : ∃ a b c d e f i j, Own w0 ((g, t, #[a, b, c, d, e, f, i, j]) :: L) w := by
  obtain ⟨⟨cs⟩, hn, ho⟩ := h
  obtain _ | ⟨a, _ | ⟨b, _ | ⟨c, _ | ⟨d, _ | ⟨e, _ | ⟨f, _ | ⟨i, _ | ⟨j, _ | ⟨k, cs⟩⟩⟩⟩⟩⟩⟩⟩⟩ := cs <;> simp at hn
  exact ⟨a, b, c, d, e, f, i, j, ho⟩
theorem eleven (h : OwnR w0 g t 11 L w) : ∃ a b c d e f i j k l m, Own w0 ((g, t, #[a, b, c, d, e, f, i, j, k, l, m]) :: L) w := by
  obtain ⟨⟨cs⟩, hn, ho⟩ := h
  obtain _ | ⟨a, _ | ⟨b, _ | ⟨c, _ | ⟨d, _ | ⟨e, _ | ⟨f, _ | ⟨i, _ | ⟨j, _ | ⟨k, _ | ⟨l, _ | ⟨m, _ | ⟨o, cs⟩⟩⟩⟩⟩⟩⟩⟩⟩⟩⟩⟩ := cs <;> simp at hn
  exact ⟨a, b, c, d, e, f, i, j, k, l, m, ho⟩
theorem seventeen (h : OwnR w0 g t 17 L w) : ∃ a b c d e f i j k l m n o p q r s, Own w0 ((g, t, #[a, b, c, d, e, f, i, j, k, l, m, n, o, p, q, r, s]) :: L) w := by
  obtain ⟨⟨cs⟩, hn, ho⟩ := h
  obtain _ | ⟨a, _ | ⟨b, _ | ⟨c, _ | ⟨d, _ | ⟨e, _ | ⟨f, _ | ⟨i, _ | ⟨j, _ | ⟨k, _ | ⟨l, _ | ⟨m, _ | ⟨n, _ | ⟨o, _ | ⟨p, _ | ⟨q, _ | ⟨r, _ | ⟨s, _ | ⟨u, cs⟩⟩⟩⟩⟩⟩⟩⟩⟩⟩⟩⟩⟩⟩⟩⟩⟩⟩ := cs <;> simp at hn
  exact ⟨a, b, c, d, e, f, i, j, k, l, m, n, o, p, q, r, s, ho⟩
end OwnR
end Go.Proofs.YtboecnakndpgfaaDoor
namespace Go.Proofs.YtboecnakndpgfaaDoor
open Go.RowKit
/-- A slice of n elements xs that may be appended to: a row of the call's own, or one without spare room. -/
def Tl (w : World) (e : TypeId) (base : Nat) (v : Value) (n : Nat) (xs : List Value) : Prop :=
  w.ownsRow base e 1 v n xs ∨ ∃ A, v = .slice A n n ∧ xs.length = n ∧ (0 < n → ∃ b off, A = some ⟨b, off, none⟩ ∧ b < base ∧ ∀ j u, xs[j]? = some u → w.cell? ⟨b, off + j, none⟩ = some u)
theorem Tl.alloc {w : World} {e : TypeId} {base n : Nat} {v : Value} {xs : List Value} (h : Tl w e base v n xs) (hb : base ≤ w.heap.size) (o : Obj) : Tl (w.alloc o) e base v n xs := by
  rcases h with h | ⟨A, rfl, hl, hA⟩
  · exact .inl (h.alloc o)
  · refine .inr ⟨A, rfl, hl, fun hn => ?_⟩
    obtain ⟨b, off, rfl, hlt, hc⟩ := hA hn
    exact ⟨b, off, rfl, hlt, fun j u hu => (World.cell?_alloc_lt w o _ (by show b < _; omega)).trans (hc j u hu)⟩
section
variable {P : Program} {w : World} {t e : TypeId} {z : Value} {bytes base n m c : Nat} {v : Value} {xs : List Value} {f : Nat → Value} {b off : Nat}
theorem wpList_append_tl {ops : Array Oper} {rest : List Oper} {o : Oper} {a : Act} {Q : Exit → Act → World → Prop} (he : Elem1 P t e z bytes) (hgd : o.guard = none) (s x : Operand)
    (ho : o.op = .call { callee := .builtin .append, args := #[s, x], argTypes := #[t, t] }) (hs : a.eval s = v) (hx : a.eval x = .slice (some ⟨b, off, none⟩) m c)
    (h : Tl w e base v n xs) (hm : 0 < m) (hc : ∀ j, j < m → w.cell? ⟨b, off + j, none⟩ = some (f j)) (h1 : ∀ j, j < m → (f j).oneCell' = true)
    (h63 : n + m ≤ maxLen) (hbytes : (n + m) * bytes ≤ 140737488355328) (hbase : base ≤ w.heap.size)
    (k : ∀ v' w', w'.ownsRow base e 1 v' (n + m) (xs ++ (List.range m).map f) → Below base w w' → wpList P ops Q rest (a.put o.dst v') w') : wpList P ops Q (o :: rest) a w := by
  rcases h with h | ⟨A, rfl, hl, hA⟩
  · refine wpList_append_sl (D := fun _ => True) (A := some ⟨b, off, none⟩) (f := f) he hgd s x ho hs hx h (fun _ => ⟨b, off, rfl, trivial, hc⟩) h1 h63 hbytes hbase ?_
    intro v' w' hown hg _
    exact k v' w' hown ((Below.refl base w).grown hg hbase (fun q hq => (h.lt q hq).1))
  · obtain ⟨ht, hz1, i, hi, hz, hs1, hb1⟩ := he
    refine wpList_append_grows w hgd s x t ho e i z 1 bytes ht hi hz hs1 hb1 hz1 (by omega) A n n xs hs ?_ (by omega) ?_ ⟨b, off, none⟩ m c ((List.range m).map f) hx (by simp) ?_ ?_ (by omega) h63 hbytes ?_
    · intro hA0
      rcases Nat.eq_zero_or_pos n with h0 | h0
      · exact ⟨h0, h0⟩
      · obtain ⟨b', off', e', _⟩ := hA h0
        rw [hA0] at e'; cases e'
    · intro b' e' j u hu
      have hj : j < xs.length := (List.getElem?_eq_some_iff.1 hu).1
      obtain ⟨b2, off2, e2, _, hc2⟩ := hA (by omega)
      rw [e'] at e2
      injection e2 with e2
      subst e2
      have hadd : (⟨b2, off2, none⟩ : Addr).add j = ⟨b2, off2 + j, none⟩ := by unfold Addr.add; split <;> simp_all
      rw [hadd]
      exact hc2 j u hu
    · intro j u hu
      rw [List.getElem?_map] at hu
      rcases Nat.lt_or_ge j m with hj | hj
      · rw [List.getElem?_range hj] at hu
        simp at hu
        subst hu
        have hadd : (⟨b, off, none⟩ : Addr).add j = ⟨b, off + j, none⟩ := by unfold Addr.add; split <;> simp_all
        rw [hadd]
        exact hc j hj
      · rw [List.getElem?_eq_none (by simpa using hj)] at hu
        cases hu
    · intro u hu
      rw [List.mem_map] at hu
      obtain ⟨j, hj, rfl⟩ := hu
      exact h1 j (by simpa using hj)
    · intro v' w' hown hg
      exact k v' w' (own_base hown hbase) ((Below.refl base w).grown hg hbase (fun q hq => by cases hq))
end
theorem cell_one (w : World) (t : TypeId) (u : Value) : ∀ j, j < 1 → (w.alloc (.cells #[u] t)).cell? ⟨w.heap.size, 0 + j, none⟩ = some u := by
  intro j hj
  obtain rfl : j = 0 := by omega
  rw [(Blk.fresh w t #[u]).cell (0 + 0)]
  rfl
end Go.Proofs.YtboecnakndpgfaaDoor
namespace Go.Proofs.YtboecnakndpgfaaDoor
open Go.RowKit
/-- The string of bytes. -/
def strB (bs : List Nat) : ByteArray := ⟨(bs.map fun b => UInt8.ofNat b).toArray⟩
theorem conv_sl {P : Program} {w : World} {D : Nat → Prop} {A : Option Addr} {len c : Nat} {bs : List Nat} (src e dst : TypeId) (hs : P.underlying src = some (.slice e)) (he : P.underlying e = some (.int .u8)) (hd : P.underlying dst = some .string)
    (hl : bs.length = len) (h : Sl w D A len (byteC bs)) : (convert src dst (.slice A len c)).run P w = .ok (.string (strB bs)) w := by
  rcases Nat.eq_zero_or_pos len with h0 | h0
  · subst h0
    obtain rfl : bs = [] := List.eq_nil_of_length_eq_zero hl
    rw [run_convert_bytes_string w src dst e _ 0 c hs he hd]
    cases A with
    | none => simp [Conv.bytesToString]; rfl
    | some a =>
      have := run_bytesToString (P := P) w a 0 c [] (run_loadCells_list (P := P) w a [] (fun j v hj => by simp at hj))
      exact this
  · obtain ⟨b, off, rfl, -, hc⟩ := h h0
    have := run_convert_bytes_arg (P := P) w src e hs he b off len c (bs.map fun b : Nat => (b : Int)) (by simpa using hl) (fun i hi => by
      rw [hc i hi]
      unfold byteC
      rw [List.getD_eq_getElem?_getD, List.getD_eq_getElem?_getD, List.getElem?_map, List.getElem?_eq_getElem (by omega)]
      rfl) dst hd
    rw [this]
    unfold strB strOfNums
    simp
theorem strB_inj {a b : List Nat} (ha : ∀ j, a.getD j 0 < 256) (hb : ∀ j, b.getD j 0 < 256) (h : strB a = strB b) : a = b := by
  unfold strB at h
  injection h with h
  have h2 : a.map (fun b => UInt8.ofNat b) = b.map (fun b => UInt8.ofNat b) := by simpa using h
  have hl : a.length = b.length := by simpa using congrArg List.length h2
  apply List.ext_getElem hl
  intro i h1 h3
  have h4 : (a.map (fun b => UInt8.ofNat b))[i]? = (b.map (fun b => UInt8.ofNat b))[i]? := by rw [h2]
  rw [List.getElem?_map, List.getElem?_map, List.getElem?_eq_getElem h1, List.getElem?_eq_getElem h3] at h4
  simp at h4
  have a1 := ha i
  have b1 := hb i
  rw [List.getD_eq_getElem?_getD, List.getElem?_eq_getElem h1] at a1
  rw [List.getD_eq_getElem?_getD, List.getElem?_eq_getElem h3] at b1
  have := congrArg UInt8.toNat h4
  simp at this a1 b1
  omega
theorem conv_own {P : Program} {w : World} {base : Nat} {A : Option Addr} {len c : Nat} {bs : List Nat} (src e dst : TypeId) (hs : P.underlying src = some (.slice e)) (he : P.underlying e = some (.int .u8)) (hd : P.underlying dst = some .string)
    (hl : bs.length = len) (h : w.ownsRow base e 1 (.slice A len c) len (bs.map fun b : Nat => Value.int .u8 (b : Int))) : (convert src dst (.slice A len c)).run P w = .ok (.string (strB bs)) w := by
  refine conv_sl src e dst hs he hd hl (Sl.of_own h ?_)
  intro j u hu
  rw [List.getElem?_map] at hu
  cases hb : bs[j]? with
  | none => rw [hb] at hu; cases hu
  | some b =>
    rw [hb] at hu
    simp at hu
    unfold byteC
    rw [List.getD_eq_getElem?_getD, hb, ← hu]
    rfl
end Go.Proofs.YtboecnakndpgfaaDoor
namespace Go.Proofs.YtboecnakndpgfaaDoor
theorem ofInt_mod64 (x : Int) : (BitVec.ofInt 64 x).toNat = (x % 18446744073709551616).toNat := by
  rw [BitVec.toNat_ofInt]; rfl
theorem and_mask_i64 (x : Int) (k : Nat) (hk : k ≤ 62) : bits .and .i64 x ((2 ^ k - 1 : Nat) : Int) = ((x % (2 ^ k : Nat)).toNat : Int) := by
  have h64 : (2 : Nat) ^ k ≤ 2 ^ 62 := Nat.pow_le_pow_right (by omega) hk
  have hp : 0 < 2 ^ k := Nat.two_pow_pos k
  show IntKind.i64.wrap ((BitVec.ofInt 64 x &&& BitVec.ofInt 64 ((2 ^ k - 1 : Nat) : Int)).toNat : Int) = _
  have h2 : (BitVec.ofInt 64 ((2 ^ k - 1 : Nat) : Int)).toNat = 2 ^ k - 1 := by
    rw [BitVec.ofInt_natCast, BitVec.toNat_ofNat]; exact Nat.mod_eq_of_lt (by omega)
  have h3 : (x % 18446744073709551616).toNat % 2 ^ k = (x % (2 ^ k : Nat)).toNat := by
    have hd : ((2 ^ k : Nat) : Int) ∣ 18446744073709551616 := by
      have : (18446744073709551616 : Int) = ((2 ^ k : Nat) : Int) * ((2 ^ (64 - k) : Nat) : Int) := by
        rw [← Int.natCast_mul, ← Nat.pow_add, show k + (64 - k) = 64 by omega]; rfl
      exact ⟨_, this⟩
    have h4 : x % 18446744073709551616 % ((2 ^ k : Nat) : Int) = x % ((2 ^ k : Nat) : Int) := Int.emod_emod_of_dvd x hd
    have h5 : 0 ≤ x % 18446744073709551616 := Int.emod_nonneg _ (by omega)
    obtain ⟨y, hy⟩ := Int.eq_ofNat_of_zero_le h5
    rw [hy] at h4 ⊢
    rw [← h4]
    rfl
  rw [BitVec.toNat_and, h2, ofInt_mod64, Nat.and_two_pow_sub_one_eq_mod, h3, IntKind.wrap_i64]
  have h6 : 0 ≤ x % ((2 ^ k : Nat) : Int) := Int.emod_nonneg _ (by omega)
  have h7 : x % ((2 ^ k : Nat) : Int) < ((2 ^ k : Nat) : Int) := Int.emod_lt_of_pos _ (by omega)
  omega
theorem and_255 (x : Int) : bits .and .i64 x 255 = ((x % 256).toNat : Int) := and_mask_i64 x 8 (by omega)
theorem and_4095 (x : Int) : bits .and .i64 x 4095 = ((x % 4096).toNat : Int) := and_mask_i64 x 12 (by omega)
theorem and_65535 (x : Int) : bits .and .i64 x 65535 = ((x % 65536).toNat : Int) := and_mask_i64 x 16 (by omega)
theorem and_1023 (x : Int) : bits .and .i64 x 1023 = ((x % 1024).toNat : Int) := and_mask_i64 x 10 (by omega)
theorem and_63' (x : Int) : bits .and .i64 x 63 = ((x % 64).toNat : Int) := and_mask_i64 x 6 (by omega)
theorem and_31' (x : Int) : bits .and .i64 x 31 = ((x % 32).toNat : Int) := and_mask_i64 x 5 (by omega)
end Go.Proofs.YtboecnakndpgfaaDoor
namespace Go.Proofs.YtboecnakndpgfaaDoor
open Go.RowKit
/-- 0, -1, 1, -2, .. as 0, 1, 2, 3, .. -/
def zig (n : Int) : Nat := if 0 ≤ n then (2 * n).toNat else (-2 * n - 1).toNat
theorem zig_lt {n : Int} (h0 : -9223372036854775808 ≤ n) (h1 : n ≤ 9223372036854775807) : zig n < 18446744073709551616 := by unfold zig; split <;> omega
theorem ret_u64 {a b : Int} (h : a = b) : Ending.returned (.int .u64 a) = .returned (.int .u64 b) := by rw [h]
theorem zig_pos (n : Int) (h0 : 0 ≤ n) (h1 : n ≤ 9223372036854775807) : bits .xor .u64 (IntKind.u64.wrap (IntKind.u64.wrap n * 2)) (IntKind.u64.wrap 0) = (zig n : Int) := by
  rw [IntKind.wrap_u64, IntKind.wrap_u64, IntKind.wrap_u64, show n % 18446744073709551616 * 2 % 18446744073709551616 = (((2 * n).toNat : Nat) : Int) from by omega, show (0 : Int) % 18446744073709551616 = ((0 : Nat) : Int) from by omega, u64_xor_nat _ _ (by omega) (by omega), Nat.xor_zero]
  unfold zig; rw [if_pos h0]
theorem zig_neg (n : Int) (h0 : n < 0) (h1 : -9223372036854775808 ≤ n) : bits .xor .u64 (IntKind.u64.wrap (IntKind.u64.wrap n * 2)) (IntKind.u64.wrap (-1)) = (zig n : Int) := by
  rw [IntKind.wrap_u64, IntKind.wrap_u64, IntKind.wrap_u64, show n % 18446744073709551616 * 2 % 18446744073709551616 = (((18446744073709551616 + 2 * n).toNat : Nat) : Int) from by omega, show (-1 : Int) % 18446744073709551616 = ((18446744073709551615 : Nat) : Int) from by omega, u64_xor_nat _ _ (by omega) (by omega), Nat.xor_comm]
  have := Lib.xor_ones64 (18446744073709551616 + 2 * n).toNat (by omega)
  rw [show (18446744073709551615 : Nat) = 2 ^ 64 - 1 from rfl, this]
  unfold zig; rw [if_neg (by omega)]
  omega
theorem zig_xor {n X Y : Int} (h0 : -9223372036854775808 ≤ n) (h1 : n ≤ 9223372036854775807) (hX : X = (n * 2) % 18446744073709551616) (hY : Y = if 0 ≤ n then 0 else 18446744073709551615) : bits .xor .u64 X Y = (zig n : Int) := by
  by_cases hn : 0 ≤ n
  · rw [if_pos hn] at hY
    rw [← zig_pos n hn h1, IntKind.wrap_u64, IntKind.wrap_u64, IntKind.wrap_u64, hX, hY]
    congr 1
    omega
  · rw [if_neg hn] at hY
    rw [← zig_neg n (by omega) h0, IntKind.wrap_u64, IntKind.wrap_u64, IntKind.wrap_u64, hX, hY]
    congr 1
    omega
set_option maxRecDepth 100000 in
set_option maxHeartbeats 400000 in
theorem zig_any (n : Int) (w : World) (h0 : -9223372036854775808 ≤ n) (h1 : n ≤ 9223372036854775807) :
    Calls Tryd.prog 55 #[.int .i64 n] w fun e w' => e = .returned (.int .u64 (zig n : Nat)) ∧ w = w' := by
  by_cases hn : 0 ≤ n
  · have e2 : n / 9223372036854775808 = 0 := by omega
    go_enter Tryd.func55, Tryd.ntmps55
    go_wp2
    go_ret
    refine ⟨ret_u64 (zig_xor h0 h1 ?_ ?_), rfl⟩
    · try simp only [IntKind.wrap_u64]
      omega
    · rw [if_pos hn]; try simp only [IntKind.wrap_u64]
      try omega
  · have e2 : n / 9223372036854775808 = -1 := by omega
    go_enter Tryd.func55, Tryd.ntmps55
    go_wp2
    go_ret
    refine ⟨ret_u64 (zig_xor h0 h1 ?_ ?_), rfl⟩
    · try simp only [IntKind.wrap_u64]
      omega
    · rw [if_neg (by omega)]; try simp only [IntKind.wrap_u64]
      try omega
end Go.Proofs.YtboecnakndpgfaaDoor
namespace Go.Proofs.YtboecnakndpgfaaDoor
open Go.RowKit
set_option linter.unusedVariables false
set_option linter.unusedSimpArgs false
/-- 0, 1, 2, 3, .. as 0, -1, 1, -2, .. -/
def zag (z : Nat) : Int := if z % 2 = 0 then (z / 2 : Nat) else -((z / 2 : Nat) : Int) - 1
theorem zag_range {z : Nat} (h : z < 18446744073709551616) : -9223372036854775808 ≤ zag z ∧ zag z ≤ 9223372036854775807 := by unfold zag; split <;> omega
theorem zag_zig (n : Int) : zag (zig n) = n := by unfold zag zig; split <;> split <;> omega
theorem zig_zag (z : Nat) : zig (zag z) = z := by unfold zag zig; split <;> split <;> omega
theorem ret_intz {k : IntKind} {a b : Int} (h : a = b) : Ending.returned (.int k a) = .returned (.int k b) := by rw [h]
theorem xor_i64_zero (x : Nat) (hx : x < 9223372036854775808) : bits .xor .i64 (x : Int) 0 = (x : Int) := by
  show IntKind.i64.wrap ((BitVec.ofInt 64 (x : Int) ^^^ BitVec.ofInt 64 0).toNat : Int) = _
  have h2 : (BitVec.ofInt 64 (x : Int)).toNat = x := by
    rw [BitVec.ofInt_natCast, BitVec.toNat_ofNat]; exact Nat.mod_eq_of_lt (by omega)
  have h1 : (BitVec.ofInt 64 0).toNat = 0 := by decide
  rw [BitVec.toNat_xor, h1, h2, Nat.xor_zero, IntKind.wrap_i64]
  omega
theorem xor_i64_ones (x : Nat) (hx : x < 9223372036854775808) : bits .xor .i64 (x : Int) (-1) = -(x : Int) - 1 := by
  rw [← Lib.i64_not x hx]
  show IntKind.i64.wrap ((BitVec.ofInt 64 (x : Int) ^^^ BitVec.ofInt 64 (-1)).toNat : Int) = IntKind.i64.wrap ((BitVec.ofInt 64 (-1) ^^^ BitVec.ofInt 64 (x : Int)).toNat : Int)
  rw [BitVec.xor_comm]
set_option maxRecDepth 100000 in
set_option maxHeartbeats 400000 in
theorem zag_any (z : Nat) (w : World) (hz : z < 18446744073709551616) :
    Calls Tryd.prog 69 #[.int .u64 (z : Nat)] w fun e w' => e = .returned (.int .i64 (zag z)) ∧ w = w' := by
  have e1 : bits .and .u64 (z : Int) 1 = ((z % 2 : Nat) : Int) := by rw [Lib.u64_and1 _ (by omega) (by omega)]; omega
  have e2 : wrap64 ((z : Int) / 2) = ((z / 2 : Nat) : Int) := by rw [show (z : Int) / 2 = ((z / 2 : Nat) : Int) by omega]; exact IntWalk.wrap64_in _ (by omega)
  have e2' : IntKind.i64.wrap ((z : Int) / 2) = ((z / 2 : Nat) : Int) := by rw [show (z : Int) / 2 = ((z / 2 : Nat) : Int) by omega]; exact IntWalk.i64_in _ (by omega)
  have HZ := Lib.hid hz
  clear hz
  rcases (show z % 2 = 0 ∨ z % 2 = 1 by omega) with h | h
  · have e3 : ((z % 2 : Nat) : Int) = 0 := by omega
    have e4 := xor_i64_zero (z / 2) (by have := HZ.out; omega)
    have HH := Lib.hid h
    rw [e3] at e1
    clear h e3
    go_enter Tryd.func69, Tryd.ntmps69
    go_wp2_with fail
    go_ret
    refine ⟨ret_intz ?_, rfl⟩
    unfold zag
    rw [if_pos HH.out]
    first
    | exact e4
    | (rw [e2]; exact e4)
    | (rw [e2']; exact e4)
    | skip
  · have e3 : ((z % 2 : Nat) : Int) = 1 := by omega
    have e4 := xor_i64_ones (z / 2) (by have := HZ.out; omega)
    have HH := Lib.hid h
    rw [e3] at e1
    clear h e3
    go_enter Tryd.func69, Tryd.ntmps69
    go_wp2_with fail
    go_ret
    refine ⟨ret_intz ?_, rfl⟩
    unfold zag
    rw [if_neg (by have := HH.out; omega)]
    first
    | exact e4
    | (rw [e2]; exact e4)
    | (rw [e2']; exact e4)
    | skip
set_option maxRecDepth 100000 in
set_option maxHeartbeats 400000 in
theorem rzag_any (z : Nat) (w : World) (hz : z < 18446744073709551616) :
    Calls Tryd.prog 48 #[.int .u64 (z : Nat)] w fun e w' => e = .returned (.int .i64 (zag z)) ∧ w = w' := by
  have HZ := Lib.hid hz
  clear hz
  rcases (show z % 2 = 0 ∨ z % 2 = 1 by omega) with h | h
  · have e1 : (z : Int).tmod 2 = 0 := by rw [Int.tmod_eq_emod_of_nonneg (by omega)]; omega
    have e2 : (z : Int).tdiv 2 = ((z / 2 : Nat) : Int) := by rw [Int.tdiv_eq_ediv_of_nonneg (by omega)]; omega
    have e3 : wrap64 ((z / 2 : Nat) : Int) = ((z / 2 : Nat) : Int) := IntWalk.wrap64_in _ (by have := HZ.out; omega)
    have HH := Lib.hid h
    clear h
    go_enter Tryd.func48, Tryd.ntmps48
    go_wp2_with fail
    go_ret
    refine ⟨ret_intz ?_, rfl⟩
    unfold zag
    rw [if_pos HH.out]
    have := HZ.out
    try unfold wrap64
    try simp only [IntKind.wrap_i64, IntKind.wrap_u64]
    omega
  · have e1 : (z : Int).tmod 2 = 1 := by rw [Int.tmod_eq_emod_of_nonneg (by omega)]; omega
    have e2 : (z : Int).tdiv 2 = ((z / 2 : Nat) : Int) := by rw [Int.tdiv_eq_ediv_of_nonneg (by omega)]; omega
    have HH := Lib.hid h
    clear h
    go_enter Tryd.func48, Tryd.ntmps48
    go_wp2_with fail
    go_ret
    refine ⟨ret_intz ?_, rfl⟩
    unfold zag
    rw [if_neg (by have := HH.out; omega)]
    have := HZ.out
    try unfold wrap64
    try simp only [IntKind.wrap_i64, IntKind.wrap_u64]
    omega
end Go.Proofs.YtboecnakndpgfaaDoor
namespace Go.Proofs.YtboecnakndpgfaaDoor
/-- Bit i of bytes, of each the highest first. -/
def bitOf (bs : List Nat) (i : Nat) : Nat := bs.getD (i / 8) 0 / 2 ^ (7 - i % 8) % 2
/-- n bits from the bit a on, as a number. -/
def gets (bs : List Nat) (a : Nat) : Nat → Nat
  | 0 => 0
  | n + 1 => 2 * gets bs a n + bitOf bs (a + n)
theorem bitOf_lt (bs : List Nat) (i : Nat) : bitOf bs i < 2 := Nat.mod_lt _ (by omega)
theorem gets_lt (bs : List Nat) (a n : Nat) : gets bs a n < 2 ^ n := by
  induction n with
  | zero => simp [gets]
  | succ n ih => have := bitOf_lt bs (a + n); rw [gets, Nat.pow_succ]; omega
/-- What Get answers: the number, its error, how many bits are taken. -/
def getV (bs : List Nat) (a en : Nat) (n : Int) : Nat := if 0 ≤ n ∧ n ≤ 64 ∧ n ≤ (en : Int) - a then gets bs a n.toNat else 0
def getE (a en : Nat) (n : Int) : Int := if 0 ≤ n ∧ n ≤ 64 then (if n ≤ (en : Int) - a then 0 else 10) else 2
def getN (a en : Nat) (n : Int) : Nat := if 0 ≤ n ∧ n ≤ 64 ∧ n ≤ (en : Int) - a then n.toNat else 0
theorem getN_le (a en : Nat) (n : Int) (h : a ≤ en) : a + getN a en n ≤ en := by unfold getN; split <;> omega
theorem two_or (g b : Nat) (hb : b < 2) : g * 2 ||| b = 2 * g + b := by
  have h := Nat.shiftLeft_add_eq_or_of_lt (i := 1) (b := b) (by omega) g
  rw [Nat.shiftLeft_eq] at h
  rw [show g * 2 = g * 2 ^ 1 from by omega, ← h]
  omega
theorem pow_cast (s : Nat) : ((2 : Int) ^ s) = ((2 ^ s : Nat) : Int) := by simp
theorem div_cast (x s : Nat) : (x : Int) / 2 ^ s = ((x / 2 ^ s : Nat) : Int) := by rw [pow_cast]; rfl
theorem and_one_u8 (x s : Nat) (hx : x < 256) : bits .and .u8 ((x : Int) / 2 ^ s) 1 = ((x / 2 ^ s % 2 : Nat) : Int) := by
  have h1 : x / 2 ^ s < 256 := Nat.lt_of_le_of_lt (Nat.div_le_self _ _) hx
  rw [div_cast, show (1 : Int) = ((1 : Nat) : Int) from rfl, u8_and_nat _ _ h1 (by omega), Nat.and_one_is_mod]
theorem get_step (g x s : Nat) (hg : g < 9223372036854775808) (hx : x < 256) :
    bits .or .u64 (IntKind.u64.wrap ((g : Int) * 2)) (IntKind.u64.wrap (bits .and .u8 ((x : Int) / 2 ^ s) 1)) = ((2 * g + x / 2 ^ s % 2 : Nat) : Int) := by
  rw [and_one_u8 x s hx, IntKind.wrap_u64, IntKind.wrap_u64]
  have h2 : x / 2 ^ s % 2 < 2 := Nat.mod_lt _ (by omega)
  generalize x / 2 ^ s % 2 = b at h2 ⊢
  rw [show (g : Int) * 2 % 18446744073709551616 = ((g * 2 : Nat) : Int) from by omega, show (b : Int) % 18446744073709551616 = (b : Int) from by omega,
    u64_or_nat _ _ (by omega) (by omega), two_or g b h2]
theorem rget_step (g x s : Nat) (hg : g < 9223372036854775808) (hx : x < 256) :
    IntKind.u64.wrap (IntKind.u64.wrap ((g : Int) * 2) + IntKind.u64.wrap (bits .and .u8 ((x : Int) / 2 ^ s) 1)) = ((2 * g + x / 2 ^ s % 2 : Nat) : Int) := by
  rw [and_one_u8 x s hx, IntKind.wrap_u64, IntKind.wrap_u64, IntKind.wrap_u64]
  have h2 : x / 2 ^ s % 2 < 2 := Nat.mod_lt _ (by omega)
  generalize x / 2 ^ s % 2 = b at h2 ⊢
  omega
end Go.Proofs.YtboecnakndpgfaaDoor
namespace Go.Proofs.YtboecnakndpgfaaDoor
open Go.RowKit
/-- A bits.Reader at block r: its bytes lie in a block of D. -/
structure Rd (w : World) (r : Nat) (D : Nat → Prop) (bs : List Nat) (a en : Nat) : Prop where
  small : bs.length ≤ 1099511627776
  le : a ≤ en
  en_le : en ≤ 8 * bs.length
  notIn : ¬ D r
  byte : ∀ j, bs.getD j 0 < 256
  blk : ∃ A c, Blk w r 130 #[.bool true, .slice A bs.length c, .int .i64 a, .int .i64 en] ∧ Sl w D A bs.length (byteC bs)

set_option maxHeartbeats 400000 in
theorem get_arg (w : World) (r : Nat) (D : Nat → Prop) (bs : List Nat) (a en : Nat) (n : Int) (h : Rd w r D bs a en) (hn : n < 0 ∨ 64 < n) :
    Calls Tryd.prog 35 #[.pointer (some ⟨r, 0, none⟩), .int .i64 n] w fun e w' => e = .returned (.tuple #[.int .u64 0, .int .i64 2]) ∧ w = w' := by
  obtain ⟨A, c, hb, -⟩ := h.blk
  have c0 := hb.cell 0
  simp at c0
  clear hb h
  rcases hn with hn | hn
  · go_enter Tryd.func35, Tryd.ntmps35
    go_wp2
    go_ret2
    exact ⟨rfl, rfl⟩
  · have hn' : ¬ n < 0 := by omega
    go_enter Tryd.func35, Tryd.ntmps35
    go_wp2
    go_ret2
    exact ⟨rfl, rfl⟩

set_option maxHeartbeats 400000 in
theorem get_end (w : World) (r : Nat) (D : Nat → Prop) (bs : List Nat) (a en : Nat) (n : Int) (h : Rd w r D bs a en) (h0 : 0 ≤ n) (h64 : n ≤ 64) (hn : (en : Int) - a < n) :
    Calls Tryd.prog 35 #[.pointer (some ⟨r, 0, none⟩), .int .i64 n] w fun e w' => e = .returned (.tuple #[.int .u64 0, .int .i64 10]) ∧ ∃ k, w' = w.drewN k := by
  obtain ⟨A, c, hb, -⟩ := h.blk
  have c0 := hb.cell 0
  have c2 := hb.cell 2
  have c3 := hb.cell 3
  simp at c0 c2 c3
  have := h.le
  have := h.en_le
  have := h.small
  clear hb h
  go_enter Tryd.func35, Tryd.ntmps35
  go_wp2
  go_quiet (fail)
  go_wp2
  go_ret2
  exact ⟨rfl, _, rfl⟩

set_option maxHeartbeats 400000 in
theorem get_ok (w : World) (r : Nat) (D : Nat → Prop) (bs : List Nat) (a en : Nat) (n : Nat) (h : Rd w r D bs a en) (h64 : n ≤ 64) (hn : n ≤ en - a) :
    Calls Tryd.prog 35 #[.pointer (some ⟨r, 0, none⟩), .int .i64 n] w fun e w' => e = .returned (.tuple #[.int .u64 (gets bs a n : Nat), .int .i64 0]) ∧ Rd w' r D bs (a + n) en ∧ Keeps (fun k => k = r) w w' := by
  obtain ⟨A, c, hb, hsl⟩ := h.blk
  have c0 := hb.cell 0
  have c2 := hb.cell 2
  have c3 := hb.cell 3
  simp at c0 c2 c3
  have hle := h.le
  have hen := h.en_le
  have hsm := h.small
  have HH := Lib.hid h
  clear h
  have d1 : decide ((n : Int) < 0) = false := by simp
  have d2 : decide ((64 : Int) < n) = false := by simp; omega
  have d3 : decide ((en : Int) - a < n) = false := by simp; omega
  go_enter Tryd.func35, Tryd.ntmps35
  go_wp2
  go_quiet (fail)
  go_wp2
  go_loopw [6, 37] (fun v i wr => ∃ k : Nat, k ≤ n ∧ i = .int .i64 k ∧ v = .int .u64 (gets bs a k : Nat) ∧ Blk wr r 130 #[.bool true, .slice A bs.length c, .int .i64 (a + k : Nat), .int .i64 en] ∧ Keeps (fun k => k = r) w wr)
    (fun _ i _ => n - (intOf i).toNat)
  case atStart => exact ⟨0, Nat.zero_le _, rfl, rfl, hb, (Keeps.refl _ _).drewN _⟩
  case round =>
    obtain ⟨k, hk, rfl, rfl, hbr, hkp⟩ := hrel
    clear c0 c2 c3 d1 d2 d3
    by_cases hlt : k < n
    · have hslr := hsl.keeps hkp (fun k hk e => HH.out.notIn (e ▸ hk))
      obtain ⟨b, off, rfl, hDb, hcell⟩ := hslr (by omega)
      have c1 := hbr.cell 1
      obtain ⟨p, hp⟩ : ∃ p, p = a + k := ⟨_, rfl⟩
      rw [← hp] at hbr
      have hpl : p < en := by omega
      obtain ⟨q, hq⟩ : ∃ q, q = p / 8 := ⟨_, rfl⟩
      obtain ⟨t, ht⟩ : ∃ t, t = p % 8 := ⟨_, rfl⟩
      obtain ⟨s, hs⟩ : ∃ s, s = 7 - t := ⟨_, rfl⟩
      obtain ⟨x, hx⟩ : ∃ x, x = bs.getD q 0 := ⟨_, rfl⟩
      obtain ⟨g, hg⟩ : ∃ g, g = gets bs a k := ⟨_, rfl⟩
      have hxb : x < 256 := hx ▸ HH.out.byte q
      have hcb := hcell q (by omega)
      unfold byteC at hcb
      rw [← hx] at hcb
      have hgb := gets_lt bs a k
      rw [← hg] at hgb ⊢
      have hgb2 : (2 : Nat) ^ k ≤ 2 ^ 63 := Nat.pow_le_pow_right (by omega) (by omega)
      have e1 : IntKind.i64.wrap ((p : Int) / 8) = (q : Int) := by rw [IntWalk.i64_in _ (by omega)]; omega
      have e2 : IntKind.i64.wrap ((p : Int) % 8) = (t : Int) := by rw [IntWalk.i64_in _ (by omega)]; omega
      have e3 : (p : Int) % 8 = (t : Int) := by omega
      have e4 : IntKind.i64.wrap (7 - (t : Int)) = (s : Int) := by rw [IntWalk.i64_in _ (by omega)]; omega
      have hqi : (q : Int) < (bs.length : Int) := by omega
      have hs7 : s ≤ 7 := by omega
      have HP := Lib.hid (And.intro hp (And.intro hq (And.intro ht (And.intro hs (And.intro hx hg)))))
      clear hp hq ht hs hx hg hgb hgb2
      have c2 := hbr.cell 2
      have f2 := hbr.frozen 2
      simp at c1 c2 f2
      clear hcell hslr
      go_wp2
      go_quiet (fail)
      clear e1 e2 e3 e4
      go_wp2
      go_roundw
      case rel =>
        obtain ⟨hp, hq, ht, hs, hx, hg⟩ := HP.out
        have hgb : g < 9223372036854775808 := by
          have h1 := gets_lt bs a k
          have h2 : (2 : Nat) ^ k ≤ 2 ^ 63 := Nat.pow_le_pow_right (by omega) (by omega)
          omega
        refine ⟨k + 1, by omega, by go_num, ?_, ?_, (hkp.drewN _).setCell (fun _ => rfl) _⟩
        · rw [get_step g x s hgb hxb, gets, ← hg, bitOf, ← hp, ← hq, ← ht, ← hs, ← hx]
        · have := (hbr.drewN nq).set 2 (.int .i64 ((p : Int) + 1))
          rw [show ((a + (k + 1) : Nat) : Int) = (p : Int) + 1 from by omega]
          simpa using this
      case measure => simp [intOf]; omega
    · go_wp2
      go_ret2
      obtain rfl : k = n := by omega
      exact ⟨rfl, ⟨hsm, by omega, hen, HH.out.notIn, HH.out.byte, A, c, hbr, hsl.keeps hkp (fun k hk e => HH.out.notIn (e ▸ hk))⟩, hkp⟩

theorem get_any (w : World) (r : Nat) (D : Nat → Prop) (bs : List Nat) (a en : Nat) (n : Int) (h : Rd w r D bs a en) :
    Calls Tryd.prog 35 #[.pointer (some ⟨r, 0, none⟩), .int .i64 n] w fun e w' => e = .returned (.tuple #[.int .u64 (getV bs a en n : Nat), .int .i64 (getE a en n)]) ∧ Rd w' r D bs (a + getN a en n) en ∧ Keeps (fun k => k = r) w w' := by
  by_cases h1 : 0 ≤ n ∧ n ≤ 64
  · by_cases h2 : n ≤ (en : Int) - a
    · obtain ⟨m, rfl⟩ := Int.eq_ofNat_of_zero_le h1.1
      have hv : getV bs a en m = gets bs a m := by unfold getV; rw [if_pos ⟨h1.1, h1.2, h2⟩]; rfl
      have he : getE a en m = 0 := by unfold getE; rw [if_pos h1, if_pos h2]
      have hn : getN a en m = m := by unfold getN; rw [if_pos ⟨h1.1, h1.2, h2⟩]; rfl
      rw [hv, he, hn]
      exact get_ok w r D bs a en m h (by omega) (by omega)
    · have hv : getV bs a en n = 0 := by unfold getV; rw [if_neg (by omega)]
      have he : getE a en n = 10 := by unfold getE; rw [if_pos h1, if_neg h2]
      have hn : getN a en n = 0 := by unfold getN; rw [if_neg (by omega)]
      rw [hv, he, hn]
      refine (get_end w r D bs a en n h h1.1 h1.2 (by omega)).mono ?_
      rintro e w' ⟨rfl, k, rfl⟩
      obtain ⟨s1, s2, s3, s4, s5, A, c, s6, s7⟩ := h
      exact ⟨rfl, ⟨s1, s2, s3, s4, s5, A, c, s6, s7⟩, (Keeps.refl _ _).drewN _⟩
  · have hv : getV bs a en n = 0 := by unfold getV; rw [if_neg (by omega)]
    have he : getE a en n = 2 := by unfold getE; rw [if_neg h1]
    have hn : getN a en n = 0 := by unfold getN; rw [if_neg (by omega)]
    rw [hv, he, hn]
    refine (get_arg w r D bs a en n h (by omega)).mono ?_
    rintro e w' ⟨rfl, rfl⟩
    exact ⟨rfl, h, Keeps.refl _ _⟩

set_option maxHeartbeats 400000 in
theorem left_any (w : World) (r : Nat) (D : Nat → Prop) (bs : List Nat) (a en : Nat) (h : Rd w r D bs a en) :
    Calls Tryd.prog 42 #[.pointer (some ⟨r, 0, none⟩)] w fun e w' => e = .returned (.int .i64 ((en : Int) - a)) ∧ ∃ k, w' = w.drewN k := by
  obtain ⟨A, c, hb, -⟩ := h.blk
  have c0 := hb.cell 0
  have c2 := hb.cell 2
  have c3 := hb.cell 3
  simp at c0 c2 c3
  have := h.le
  have := h.en_le
  have := h.small
  clear hb h
  have e1 : IntKind.i64.wrap ((en : Int) - a) = (en : Int) - a := IntWalk.i64_in _ (by omega)
  go_enter Tryd.func42, Tryd.ntmps42
  go_wp2
  go_quiet (fail)
  go_wp2
  go_ret
  exact ⟨rfl, _, rfl⟩

theorem byteElem : Elem1 Tryd.prog 22 5 (.int .u8 0) 1 := Elem1.mk' Tryd.underlying22 rfl (by kernel_rfl)

def NewRdPost (w : World) (bs : List Nat) (n : Nat) (e : Ending) (w' : World) : Prop :=
  ∃ r, e = .returned (.tuple #[.pointer (some ⟨r, 0, none⟩), .int .i64 0]) ∧ w.heap.size ≤ r ∧ Rd w' r (fun k => w.heap.size ≤ k ∧ k < r) bs 0 n ∧ Keeps (fun _ => False) w w'

set_option maxHeartbeats 400000 in
theorem newReader_ok (w : World) (A : Option Addr) (c : Nat) (D : Nat → Prop) (bs : List Nat) (n : Nat) (hsl : Sl w D A bs.length (byteC bs)) (hbyte : ∀ j, bs.getD j 0 < 256) (hsm : bs.length ≤ 1099511627776) (hn : n ≤ 8 * bs.length) :
    Calls Tryd.prog 33 #[.slice A bs.length c, .int .i64 n] w (NewRdPost w bs n) := by
  go_enter Tryd.func33, Tryd.ntmps33
  go_wp2_with (at_builtin; refine wpList_append_sl (D := D) (f := byteC bs) (base := w.heap.size) (n := 0) (xs := []) byteElem rfl (.tmp 15) (.tmp 16) rfl rfl rfl ?hown ?hsl ?h1 ?h63 ?hby ?hbase ?_)
  case hown => exact World.ownsRow_made w _ 0 (Nat.le_refl _) (by decide) (by simp)
  case hsl => exact hsl.keep fun k _ hlt => Below.heap_alloc w _ k hlt
  case h1 => intro j _; rfl
  case h63 => simp only [maxLen]; omega
  case hby => omega
  case hbase => simp
  intro v1 w1 hown1 hg1 hat1
  obtain ⟨A1, c1, hv1, -, hA1⟩ := own_form hown1
  rw [hv1]
  rw [hv1] at hown1
  have H1 := Lib.hid hown1
  have H2 := Lib.hid hA1
  have H3 := Lib.hid hg1
  clear hown1 hA1 hg1 hat1 hv1
  go_wp2
  go_ret2
  have hk1 : Keeps (fun _ => False) w w1 := ((Keeps.refl _ w).alloc _).grown H3.out (fun k hk hlt => by simp [Value.ownBlock] at hk; omega)
  refine ⟨w1.heap.size, rfl, hk1.size, ⟨hsm, Nat.zero_le _, hn, fun hx => by omega, hbyte, A1, c1, Blk.fresh _ _ _, ?_⟩, hk1.alloc _⟩
  refine ((Sl.of_own (f := byteC bs) H1.out ?_).mono ?_).keep fun k _ hlt => Below.heap_alloc w1 _ k hlt
  · intro j u hu
    rw [List.getElem?_map] at hu
    rcases Nat.lt_or_ge j bs.length with hj | hj
    · rw [List.getElem?_range hj] at hu
      simpa using hu.symm
    · rw [List.getElem?_eq_none (by simpa using hj)] at hu
      cases hu
  · intro k hk
    have := H1.out.lt k hk
    exact this

set_option maxHeartbeats 400000 in
theorem newReader_arg (w : World) (A : Option Addr) (len c : Nat) (n : Int) (hsm : len ≤ 1099511627776) (hn : n < 0 ∨ 8 * (len : Int) < n) :
    Calls Tryd.prog 33 #[.slice A len c, .int .i64 n] w fun e w' => e = .returned (.tuple #[.pointer none, .int .i64 2]) ∧ w = w' := by
  rcases hn with hn | hn
  · go_enter Tryd.func33, Tryd.ntmps33
    go_wp2
    go_ret2
    exact ⟨rfl, rfl⟩
  · have hn' : ¬ n < 0 := by omega
    go_enter Tryd.func33, Tryd.ntmps33
    go_wp2
    go_ret2
    exact ⟨rfl, rfl⟩
end Go.Proofs.YtboecnakndpgfaaDoor
namespace Go.Proofs.YtboecnakndpgfaaDoor
open Go.RowKit
/-- A tidemillref02.Reader at block r: its bytes lie in a block of D. -/
structure RRd (w : World) (r : Nat) (D : Nat → Prop) (bs : List Nat) (a en : Nat) : Prop where
  small : bs.length ≤ 1099511627776
  le : a ≤ en
  en_le : en ≤ 8 * bs.length
  notIn : ¬ D r
  byte : ∀ j, bs.getD j 0 < 256
  blk : ∃ A c, Blk w r 112 #[.slice A bs.length c, .int .i64 a, .int .i64 en] ∧ Sl w D A bs.length (byteC bs)

theorem RRd.drewN {w : World} {r : Nat} {D : Nat → Prop} {bs : List Nat} {a en : Nat} (h : RRd w r D bs a en) (k : Nat) : RRd (w.drewN k) r D bs a en := by
  obtain ⟨s1, s2, s3, s4, s5, A, c, s6, s7⟩ := h
  exact ⟨s1, s2, s3, s4, s5, A, c, s6, s7⟩
theorem Rd.drewN {w : World} {r : Nat} {D : Nat → Prop} {bs : List Nat} {a en : Nat} (h : Rd w r D bs a en) (k : Nat) : Rd (w.drewN k) r D bs a en := by
  obtain ⟨s1, s2, s3, s4, s5, A, c, s6, s7⟩ := h
  exact ⟨s1, s2, s3, s4, s5, A, c, s6, s7⟩
theorem RRd.keeps {S : Nat → Prop} {w w' : World} {r : Nat} {D : Nat → Prop} {bs : List Nat} {a en : Nat} (h : RRd w r D bs a en) (hk : Keeps S w w') (hr : ¬ S r) (hd : ∀ k, D k → ¬ S k) : RRd w' r D bs a en := by
  obtain ⟨s1, s2, s3, s4, s5, A, c, s6, s7⟩ := h
  exact ⟨s1, s2, s3, s4, s5, A, c, s6.keeps hk hr, s7.keeps hk hd⟩
theorem Rd.keeps {S : Nat → Prop} {w w' : World} {r : Nat} {D : Nat → Prop} {bs : List Nat} {a en : Nat} (h : Rd w r D bs a en) (hk : Keeps S w w') (hr : ¬ S r) (hd : ∀ k, D k → ¬ S k) : Rd w' r D bs a en := by
  obtain ⟨s1, s2, s3, s4, s5, A, c, s6, s7⟩ := h
  exact ⟨s1, s2, s3, s4, s5, A, c, s6.keeps hk hr, s7.keeps hk hd⟩

set_option maxHeartbeats 400000 in
theorem rget_arg (w : World) (r : Nat) (n : Int) (hn : n < 0 ∨ 64 < n) :
    Calls Tryd.prog 46 #[.pointer (some ⟨r, 0, none⟩), .int .i64 n] w fun e w' => e = .returned (.tuple #[.int .u64 0, .int .i64 2]) ∧ w = w' := by
  rcases hn with hn | hn
  · go_enter Tryd.func46, Tryd.ntmps46
    go_wp2
    go_ret2
    exact ⟨rfl, rfl⟩
  · have hn' : ¬ n < 0 := by omega
    go_enter Tryd.func46, Tryd.ntmps46
    go_wp2
    go_ret2
    exact ⟨rfl, rfl⟩

set_option maxHeartbeats 400000 in
theorem rget_end (w : World) (r : Nat) (D : Nat → Prop) (bs : List Nat) (a en : Nat) (n : Int) (h : RRd w r D bs a en) (h0 : 0 ≤ n) (h64 : n ≤ 64) (hn : (en : Int) - a < n) :
    Calls Tryd.prog 46 #[.pointer (some ⟨r, 0, none⟩), .int .i64 n] w fun e w' => e = .returned (.tuple #[.int .u64 0, .int .i64 10]) ∧ ∃ k, w' = w.drewN k := by
  obtain ⟨A, c, hb, -⟩ := h.blk
  have c1 := hb.cell 1
  have c2 := hb.cell 2
  simp at c1 c2
  have := h.le
  have := h.en_le
  have := h.small
  clear hb h
  go_enter Tryd.func46, Tryd.ntmps46
  go_wp2
  go_quiet (fail)
  go_wp2
  go_ret2
  exact ⟨rfl, _, rfl⟩

set_option maxHeartbeats 400000 in
theorem rget_ok (w : World) (r : Nat) (D : Nat → Prop) (bs : List Nat) (a en : Nat) (n : Nat) (h : RRd w r D bs a en) (h64 : n ≤ 64) (hn : n ≤ en - a) :
    Calls Tryd.prog 46 #[.pointer (some ⟨r, 0, none⟩), .int .i64 n] w fun e w' => e = .returned (.tuple #[.int .u64 (gets bs a n : Nat), .int .i64 0]) ∧ RRd w' r D bs (a + n) en ∧ Keeps (fun k => k = r) w w' := by
  obtain ⟨A, c, hb, hsl⟩ := h.blk
  have c1 := hb.cell 1
  have c2 := hb.cell 2
  simp at c1 c2
  have hle := h.le
  have hen := h.en_le
  have hsm := h.small
  have HH := Lib.hid h
  clear h
  have d1 : decide ((n : Int) < 0) = false := by simp
  have d2 : decide ((64 : Int) < n) = false := by simp; omega
  have d3 : decide ((en : Int) - a < n) = false := by simp; omega
  go_enter Tryd.func46, Tryd.ntmps46
  go_wp2
  go_quiet (fail)
  go_wp2
  go_loopw [6, 7] (fun v i wr => ∃ k : Nat, k ≤ n ∧ i = .int .i64 k ∧ v = .int .u64 (gets bs a k : Nat) ∧ Blk wr r 112 #[.slice A bs.length c, .int .i64 (a + k : Nat), .int .i64 en] ∧ Keeps (fun k => k = r) w wr)
    (fun _ i _ => n - (intOf i).toNat)
  case atStart => exact ⟨0, Nat.zero_le _, rfl, rfl, hb, (Keeps.refl _ _).drewN _⟩
  case round =>
    obtain ⟨k, hk, rfl, rfl, hbr, hkp⟩ := hrel
    clear c1 c2 d1 d2 d3
    by_cases hlt : k < n
    · have hslr := hsl.keeps hkp (fun k hk e => HH.out.notIn (e ▸ hk))
      obtain ⟨b, off, rfl, hDb, hcell⟩ := hslr (by omega)
      have c1 := hbr.cell 0
      obtain ⟨p, hp⟩ : ∃ p, p = a + k := ⟨_, rfl⟩
      rw [← hp] at hbr
      have hpl : p < en := by omega
      obtain ⟨q, hq⟩ : ∃ q, q = p / 8 := ⟨_, rfl⟩
      obtain ⟨t, ht⟩ : ∃ t, t = p % 8 := ⟨_, rfl⟩
      obtain ⟨s, hs⟩ : ∃ s, s = 7 - t := ⟨_, rfl⟩
      obtain ⟨x, hx⟩ : ∃ x, x = bs.getD q 0 := ⟨_, rfl⟩
      obtain ⟨g, hg⟩ : ∃ g, g = gets bs a k := ⟨_, rfl⟩
      have hxb : x < 256 := hx ▸ HH.out.byte q
      have hcb := hcell q (by omega)
      unfold byteC at hcb
      rw [← hx] at hcb
      have hgb := gets_lt bs a k
      rw [← hg] at hgb ⊢
      have hgb2 : (2 : Nat) ^ k ≤ 2 ^ 63 := Nat.pow_le_pow_right (by omega) (by omega)
      have e1 : IntKind.i64.wrap ((p : Int) / 8) = (q : Int) := by rw [IntWalk.i64_in _ (by omega)]; omega
      have e2 : IntKind.i64.wrap ((p : Int) % 8) = (t : Int) := by rw [IntWalk.i64_in _ (by omega)]; omega
      have e3 : (p : Int) % 8 = (t : Int) := by omega
      have e4 : IntKind.i64.wrap (7 - (t : Int)) = (s : Int) := by rw [IntWalk.i64_in _ (by omega)]; omega
      have hqi : (q : Int) < (bs.length : Int) := by omega
      have hs7 : s ≤ 7 := by omega
      have HP := Lib.hid (And.intro hp (And.intro hq (And.intro ht (And.intro hs (And.intro hx hg)))))
      clear hp hq ht hs hx hg hgb hgb2
      have c2 := hbr.cell 1
      have f2 := hbr.frozen 1
      simp at c1 c2 f2
      clear hcell hslr
      go_wp2
      go_quiet (fail)
      clear e1 e2 e3 e4
      go_wp2
      go_roundw
      case rel =>
        obtain ⟨hp, hq, ht, hs, hx, hg⟩ := HP.out
        have hgb : g < 9223372036854775808 := by
          have h1 := gets_lt bs a k
          have h2 : (2 : Nat) ^ k ≤ 2 ^ 63 := Nat.pow_le_pow_right (by omega) (by omega)
          omega
        refine ⟨k + 1, by omega, by go_num, ?_, ?_, (hkp.drewN _).setCell (fun _ => rfl) _⟩
        · rw [rget_step g x s hgb hxb, gets, ← hg, bitOf, ← hp, ← hq, ← ht, ← hs, ← hx]
        · have := (hbr.drewN nq).set 1 (.int .i64 ((p : Int) + 1))
          rw [show ((a + (k + 1) : Nat) : Int) = (p : Int) + 1 from by omega]
          simpa using this
      case measure => simp [intOf]; omega
    · go_wp2
      go_ret2
      obtain rfl : k = n := by omega
      exact ⟨rfl, ⟨hsm, by omega, hen, HH.out.notIn, HH.out.byte, A, c, hbr, hsl.keeps hkp (fun k hk e => HH.out.notIn (e ▸ hk))⟩, hkp⟩

theorem rget_any (w : World) (r : Nat) (D : Nat → Prop) (bs : List Nat) (a en : Nat) (n : Int) (h : RRd w r D bs a en) :
    Calls Tryd.prog 46 #[.pointer (some ⟨r, 0, none⟩), .int .i64 n] w fun e w' => e = .returned (.tuple #[.int .u64 (getV bs a en n : Nat), .int .i64 (getE a en n)]) ∧ RRd w' r D bs (a + getN a en n) en ∧ Keeps (fun k => k = r) w w' := by
  by_cases h1 : 0 ≤ n ∧ n ≤ 64
  · by_cases h2 : n ≤ (en : Int) - a
    · obtain ⟨m, rfl⟩ := Int.eq_ofNat_of_zero_le h1.1
      have hv : getV bs a en m = gets bs a m := by unfold getV; rw [if_pos ⟨h1.1, h1.2, h2⟩]; rfl
      have he : getE a en m = 0 := by unfold getE; rw [if_pos h1, if_pos h2]
      have hn : getN a en m = m := by unfold getN; rw [if_pos ⟨h1.1, h1.2, h2⟩]; rfl
      rw [hv, he, hn]
      exact rget_ok w r D bs a en m h (by omega) (by omega)
    · have hv : getV bs a en n = 0 := by unfold getV; rw [if_neg (by omega)]
      have he : getE a en n = 10 := by unfold getE; rw [if_pos h1, if_neg h2]
      have hn : getN a en n = 0 := by unfold getN; rw [if_neg (by omega)]
      rw [hv, he, hn]
      refine (rget_end w r D bs a en n h h1.1 h1.2 (by omega)).mono ?_
      rintro e w' ⟨rfl, k, rfl⟩
      exact ⟨rfl, h.drewN k, (Keeps.refl _ _).drewN _⟩
  · have hv : getV bs a en n = 0 := by unfold getV; rw [if_neg (by omega)]
    have he : getE a en n = 2 := by unfold getE; rw [if_neg h1]
    have hn : getN a en n = 0 := by unfold getN; rw [if_neg (by omega)]
    rw [hv, he, hn]
    refine (rget_arg w r n (by omega)).mono ?_
    rintro e w' ⟨rfl, rfl⟩
    exact ⟨rfl, h, Keeps.refl _ _⟩

def NewRRdPost (w : World) (D : Nat → Prop) (bs : List Nat) (n : Nat) (e : Ending) (w' : World) : Prop :=
  ∃ r, e = .returned (.tuple #[.pointer (some ⟨r, 0, none⟩), .int .i64 0]) ∧ w.heap.size ≤ r ∧ RRd w' r D bs 0 n ∧ Keeps (fun _ => False) w w'

set_option maxHeartbeats 400000 in
theorem rnewReader_ok (w : World) (A : Option Addr) (c : Nat) (D : Nat → Prop) (bs : List Nat) (n : Nat) (hsl : Sl w D A bs.length (byteC bs)) (hbyte : ∀ j, bs.getD j 0 < 256) (hsm : bs.length ≤ 1099511627776) (hn : n ≤ 8 * bs.length) (hD : ∀ k, D k → k < w.heap.size) :
    Calls Tryd.prog 45 #[.slice A bs.length c, .int .i64 n] w (NewRRdPost w D bs n) := by
  go_enter Tryd.func45, Tryd.ntmps45
  go_wp2
  go_ret2
  refine ⟨w.heap.size, rfl, Nat.le_refl _, ⟨hsm, Nat.zero_le _, hn, fun hx => by have := hD _ hx; omega, hbyte, A, c, Blk.fresh _ _ _, ?_⟩, (Keeps.refl _ _).alloc _⟩
  exact hsl.keep fun k _ hlt => Below.heap_alloc w _ k hlt

set_option maxHeartbeats 400000 in
theorem rnewReader_arg (w : World) (A : Option Addr) (len c : Nat) (n : Int) (hsm : len ≤ 1099511627776) (hn : n < 0 ∨ 8 * (len : Int) < n) :
    Calls Tryd.prog 45 #[.slice A len c, .int .i64 n] w fun e w' => e = .returned (.tuple #[.pointer none, .int .i64 2]) ∧ w = w' := by
  rcases hn with hn | hn
  · go_enter Tryd.func45, Tryd.ntmps45
    go_wp2
    go_ret2
    exact ⟨rfl, rfl⟩
  · have hn' : ¬ n < 0 := by omega
    go_enter Tryd.func45, Tryd.ntmps45
    go_wp2
    go_ret2
    exact ⟨rfl, rfl⟩

theorem newReader_fit (w : World) (A : Option Addr) (len c : Nat) (D : Nat → Prop) (bs : List Nat) (n : Int) (hl : bs.length = len) (hsl : Sl w D A len (byteC bs)) (hbyte : ∀ j, bs.getD j 0 < 256) (hsm : len ≤ 1099511627776) (h0 : 0 ≤ n) (hn : n ≤ 8 * (len : Int)) :
    Calls Tryd.prog 33 #[.slice A len c, .int .i64 n] w (NewRdPost w bs n.toNat) := by
  subst hl
  obtain ⟨m, rfl⟩ := Int.eq_ofNat_of_zero_le h0
  exact newReader_ok w A c D bs m hsl hbyte hsm (by omega)
theorem rnewReader_fit (w : World) (A : Option Addr) (len c : Nat) (D : Nat → Prop) (bs : List Nat) (n : Int) (hl : bs.length = len) (hsl : Sl w D A len (byteC bs)) (hbyte : ∀ j, bs.getD j 0 < 256) (hsm : len ≤ 1099511627776) (h0 : 0 ≤ n) (hn : n ≤ 8 * (len : Int)) (hD : ∀ k, D k → k < w.heap.size) :
    Calls Tryd.prog 45 #[.slice A len c, .int .i64 n] w (NewRRdPost w D bs n.toNat) := by
  subst hl
  obtain ⟨m, rfl⟩ := Int.eq_ofNat_of_zero_le h0
  exact rnewReader_ok w A c D bs m hsl hbyte hsm (by omega) hD
end Go.Proofs.YtboecnakndpgfaaDoor
