/-
  A world that is an older one but for new blocks, some of which are known whole.
-/
import Derived.Test.YthhgnngpaagagaaDoorMem
import Derived.Lib.Hide
namespace Go.Proofs.YthhgnngpaagagaaDoor
open Go.RowKit
theorem perm_front {α : Type} : ∀ (L : List α) (i : Nat) (h : i < L.length), L.Perm (L[i] :: L.eraseIdx i)
  | _ :: _, 0, _ => List.Perm.refl _
  | a :: l, i + 1, h => ((perm_front l i (by simpa using h)).cons a).trans (List.Perm.swap _ _ _)
/-- w is w0 but for new blocks; those of L (number, type, cells), no two of one number, are known whole. -/
structure Own (w0 : World) (L : List (Nat × TypeId × Array Value)) (w : World) : Prop where
  bel : Below w0.heap.size w0 w
  blk : ∀ b ∈ L, w0.heap.size ≤ b.1 ∧ Blk w b.1 b.2.1 b.2.2
  nd : L.Pairwise (fun a b => a.1 ≠ b.1)
namespace Own
variable {w0 w w' : World} {L : List (Nat × TypeId × Array Value)} {g : Nat} {t : TypeId} {cs : Array Value}
theorem start (w : World) : Own w [] w := ⟨Below.refl _ _, fun _ h => (List.not_mem_nil h).elim, List.Pairwise.nil⟩
theorem lt (h : Own w0 L w) : ∀ b ∈ L, b.1 < w.heap.size := fun b hb => (h.blk b hb).2.lt
theorem size (h : Own w0 L w) : w0.heap.size ≤ w.heap.size := h.bel.size
theorem alloc (h : Own w0 L w) (hg : g = w.heap.size) (t : TypeId) (cs : Array Value) : Own w0 (L ++ [(g, t, cs)]) (w.alloc (.cells cs t)) := by
  subst hg
  refine ⟨h.bel.alloc h.bel.size _, ?_, ?_⟩
  · intro b hb
    rcases List.mem_append.1 hb with hb | hb
    · exact ⟨(h.blk b hb).1, (h.blk b hb).2.alloc _⟩
    · obtain rfl := List.mem_singleton.1 hb
      exact ⟨h.bel.size, Blk.fresh _ _ _⟩
  · refine List.pairwise_append.2 ⟨h.nd, List.pairwise_singleton _ _, ?_⟩
    intro a ha b hb
    obtain rfl := List.mem_singleton.1 hb
    exact Nat.ne_of_lt (h.lt a ha)
theorem call (h : Own w0 L w) (hb : Below w.heap.size w w') : Own w0 L w' :=
  ⟨h.bel.trans (hb.mono h.bel.size), fun b hm => ⟨(h.blk b hm).1, (h.blk b hm).2.below hb (h.lt b hm)⟩, h.nd⟩
theorem drew (h : Own w0 L w) : Own w0 L w.drew := h.call (Below.refl _ _).drew
theorem drewN (h : Own w0 L w) (n : Nat) : Own w0 L (w.drewN n) := h.call ((Keeps.refl (fun _ => False) w).drewN n).to_below
theorem cell (h : Own w0 L w) (i j : Nat) {v : Value} (hi : L[i]? = some (g, t, cs)) (hj : cs.toList[j]? = some v) : w.cell? ⟨g, j, none⟩ = some v := by
  have hb := (h.blk _ (List.mem_of_getElem? hi)).2
  rw [hb.cell j, ← Array.getElem?_toList]
  exact hj
theorem free (h : Own w0 L w) (i : Nat) (hi : L[i]? = some (g, t, cs)) : ∀ j, w.frozen? ⟨g, j, none⟩ = false :=
  ((h.blk _ (List.mem_of_getElem? hi)).2).frozen
theorem get (h : Own w0 L w) (i : Nat) (hi : L[i]? = some (g, t, cs)) : Blk w g t cs := (h.blk _ (List.mem_of_getElem? hi)).2
theorem geq (h : Own w0 L w) (i : Nat) (hi : L[i]? = some (g, t, cs)) : w0.heap.size ≤ g := (h.blk _ (List.mem_of_getElem? hi)).1
theorem ne (h : Own w0 L w) {i j g' : Nat} {t' : TypeId} {cs' : Array Value} (hi : L[i]? = some (g, t, cs)) (hj : L[j]? = some (g', t', cs')) (hij : i ≠ j) : g ≠ g' := by
  have hl := List.getElem?_eq_some_iff.1 hi
  have hl' := List.getElem?_eq_some_iff.1 hj
  obtain ⟨hi1, hi2⟩ := hl
  obtain ⟨hj1, hj2⟩ := hl'
  have hp := List.pairwise_iff_getElem.1 h.nd
  rcases Nat.lt_or_gt_of_ne hij with hlt | hlt
  · have := hp i j hi1 hj1 hlt
    rw [hi2, hj2] at this
    exact this
  · have := hp j i hj1 hi1 hlt
    rw [hi2, hj2] at this
    exact fun e => this e.symm
theorem set (h : Own w0 L w) (i j : Nat) (hi : L[i]? = some (g, t, cs)) (v : Value) : Own w0 (L.set i (g, t, cs.setIfInBounds j v)) (w.setCell ⟨g, j, none⟩ v) := by
  refine ⟨h.bel.setCell (p := ⟨g, j, none⟩) (h.geq i hi) v, ?_, ?_⟩
  · intro b hb
    obtain ⟨k, hk⟩ := List.mem_iff_getElem?.1 hb
    by_cases hki : i = k
    · subst hki
      have hlen : i < L.length := (List.getElem?_eq_some_iff.1 hi).1
      rw [List.getElem?_set_self hlen] at hk
      injection hk with hk
      subst hk
      exact ⟨h.geq i hi, (h.get i hi).set j v⟩
    · rw [List.getElem?_set_ne hki] at hk
      obtain ⟨g', t', cs'⟩ := b
      exact ⟨h.geq k hk, (h.get k hk).far (p := ⟨g, j, none⟩) (h.ne hk hi (fun e => hki e.symm)) v⟩
  · have e : (L.set i (g, t, cs.setIfInBounds j v)).map (fun a => a.1) = L.map (fun a => a.1) := by
      apply List.ext_getElem?
      intro k
      rw [List.getElem?_map, List.getElem?_map]
      by_cases hki : i = k
      · subst hki
        have hlen : i < L.length := (List.getElem?_eq_some_iff.1 hi).1
        rw [List.getElem?_set_self hlen, hi]
        rfl
      · rw [List.getElem?_set_ne hki]
    have h1 : (L.map (fun a => a.1)).Pairwise (· ≠ ·) := List.pairwise_map.2 h.nd
    rw [← e] at h1
    exact List.pairwise_map.1 h1
theorem sub {M : List (Nat × TypeId × Array Value)} (h : Own w0 L w) (hs : M.Sublist L) : Own w0 M w := ⟨h.bel, fun b hb => h.blk b (hs.subset hb), h.nd.sublist hs⟩
theorem take (h : Own w0 L w) (n : Nat) : Own w0 (L.take n) w := h.sub (List.take_sublist n L)
theorem front (h : Own w0 L w) (i : Nat) {b : Nat × TypeId × Array Value} (hi : L[i]? = some b) : Own w0 (b :: L.eraseIdx i) w := by
  obtain ⟨hl, rfl⟩ := List.getElem?_eq_some_iff.1 hi
  have hp : L.Perm (L[i] :: L.eraseIdx i) := perm_front L i hl
  exact ⟨h.bel, fun b hb => h.blk b (hp.mem_iff.2 hb), (hp.pairwise_iff (fun e e' => e e'.symm)).1 h.nd⟩
theorem keeps (h : Own w0 L w) : Keeps (fun _ => False) w0 w := Keeps.of_below h.bel
theorem own1 (w : World) {x : Nat} (hx : x = w.heap.size) (t : TypeId) (c : Array Value) : Own w [(x, t, c)] (w.alloc (.cells c t)) := (start w).alloc hx t c
theorem own2 (w : World) {x : Nat} (hx : x = w.heap.size) (t : TypeId) (c : Array Value) (t1 : TypeId) (c1 : Array Value) : Own w [(x, t, c), (x + 1, t1, c1)] ((w.alloc (.cells c t)).alloc (.cells c1 t1)) :=
  (own1 w hx t c).alloc (by simp [hx]) t1 c1
theorem own3 (w : World) {x : Nat} (hx : x = w.heap.size) (t : TypeId) (c : Array Value) (t1 : TypeId) (c1 : Array Value) (t2 : TypeId) (c2 : Array Value) :
    Own w [(x, t, c), (x + 1, t1, c1), (x + 1 + 1, t2, c2)] (((w.alloc (.cells c t)).alloc (.cells c1 t1)).alloc (.cells c2 t2)) :=
  (own2 w hx t c t1 c1).alloc (by simp [hx]) t2 c2
theorem own4 (w : World) {x : Nat} (hx : x = w.heap.size) (t : TypeId) (c : Array Value) (t1 : TypeId) (c1 : Array Value) (t2 : TypeId) (c2 : Array Value) (t3 : TypeId) (c3 : Array Value) :
    Own w [(x, t, c), (x + 1, t1, c1), (x + 1 + 1, t2, c2), (x + 1 + 1 + 1, t3, c3)] ((((w.alloc (.cells c t)).alloc (.cells c1 t1)).alloc (.cells c2 t2)).alloc (.cells c3 t3)) :=
  (own3 w hx t c t1 c1 t2 c2).alloc (by simp [hx]) t3 c3
end Own
/-- The cells of block g from k on are written, one behind the other. -/
def setFrom (w : World) (g k : Nat) : List Value → World
  | [] => w
  | v :: vs => setFrom (w.setCell ⟨g, k, none⟩ v) g (k + 1) vs
def setArr (cs : Array Value) (k : Nat) : List Value → Array Value
  | [] => cs
  | v :: vs => setArr (cs.setIfInBounds k v) (k + 1) vs
theorem setArr_size : ∀ (vs : List Value) (k : Nat) (cs : Array Value), (setArr cs k vs).size = cs.size
  | [], _, _ => rfl
  | v :: vs, k, cs => by unfold setArr; rw [setArr_size vs]; simp
theorem setArr_low : ∀ (vs : List Value) (k : Nat) (cs : Array Value) (i : Nat), i < k → (setArr cs k vs)[i]? = cs[i]?
  | [], _, _, _, _ => rfl
  | v :: vs, k, cs, i, h => by
    unfold setArr
    rw [setArr_low vs (k + 1) _ i (by omega), Array.getElem?_setIfInBounds]
    rw [if_neg (by omega)]
theorem setArr_get : ∀ (vs : List Value) (k : Nat) (cs : Array Value) (i : Nat), k + vs.length ≤ cs.size → (setArr cs k vs)[k + i]? = if i < vs.length then vs[i]? else cs[k + i]?
  | [], _, _, _, _ => by simp [setArr]
  | v :: vs, k, cs, 0, h => by
    unfold setArr
    simp at h
    rw [setArr_low vs (k + 1) _ (k + 0) (by omega), Array.getElem?_setIfInBounds]
    simp
    omega
  | v :: vs, k, cs, i + 1, h => by
    unfold setArr
    simp at h
    have := setArr_get vs (k + 1) (cs.setIfInBounds k v) i (by simp; omega)
    have e : k + (i + 1) = k + 1 + i := by omega
    rw [e, this]
    simp only [List.length_cons, Nat.add_lt_add_iff_right, List.getElem?_cons_succ]
    have e2 : (cs.setIfInBounds k v)[k + 1 + i]? = cs[k + 1 + i]? := by rw [Array.getElem?_setIfInBounds, if_neg (show ¬ k = k + 1 + i by omega)]
    rw [e2]
theorem Own.setFrom_own {w0 : World} {L : List (Nat × TypeId × Array Value)} {g : Nat} {t : TypeId} : ∀ (vs : List Value) (k : Nat) (w : World) (cs : Array Value), Own w0 ((g, t, cs) :: L) w → Own w0 ((g, t, setArr cs k vs) :: L) (setFrom w g k vs)
  | [], _, _, _, h => h
  | v :: vs, k, _, _, h => Own.setFrom_own vs (k + 1) _ _ (h.set 0 k rfl v)
/-- .. and block g, of n cells, may be written. -/
def OwnR (w0 : World) (g : Nat) (t : TypeId) (n : Nat) (L : List (Nat × TypeId × Array Value)) (w : World) : Prop := ∃ cs : Array Value, cs.size = n ∧ Own w0 ((g, t, cs) :: L) w
namespace OwnR
variable {w0 w w' : World} {L : List (Nat × TypeId × Array Value)} {g n : Nat} {t : TypeId} {cs : Array Value}
theorem of (h : Own w0 ((g, t, cs) :: L) w) (hn : cs.size = n) : OwnR w0 g t n L w := ⟨cs, hn, h⟩
theorem call (h : OwnR w0 g t n L w) (hb : Below w.heap.size w w') : OwnR w0 g t n L w' := by
  obtain ⟨cs, hn, ho⟩ := h
  exact ⟨cs, hn, ho.call hb⟩
theorem rest (h : OwnR w0 g t n L w) : Own w0 L w := by
  obtain ⟨cs, hn, ho⟩ := h
  exact ho.sub (List.sublist_cons_self _ _)
theorem put (h : OwnR w0 g t n L w) (vs : List Value) (hl : vs.length = n) : Own w0 ((g, t, vs.toArray) :: L) (setFrom w g 0 vs) := by
  obtain ⟨cs, hn, ho⟩ := h
  have := Own.setFrom_own vs 0 w cs ho
  have e : setArr cs 0 vs = vs.toArray := by
    apply Array.ext
    · rw [setArr_size]; simp [hn, hl]
    · intro i h1 h2
      have h3 : i < vs.length := by simpa using h2
      have := setArr_get vs 0 cs i (by omega)
      rw [Nat.zero_add, Array.getElem?_eq_getElem h1, if_pos h3, List.getElem?_eq_getElem h3] at this
      exact Option.some.inj this
  rw [e] at this
  exact this
theorem one (h : OwnR w0 g t 1 L w) : ∃ a, Own w0 ((g, t, #[a]) :: L) w := by
  obtain ⟨⟨cs⟩, hn, ho⟩ := h
  obtain _ | ⟨a, _ | ⟨b, cs⟩⟩ := cs <;> simp at hn
  exact ⟨a, ho⟩
theorem two (h : OwnR w0 g t 2 L w) : ∃ a b, Own w0 ((g, t, #[a, b]) :: L) w := by
  obtain ⟨⟨cs⟩, hn, ho⟩ := h
  obtain _ | ⟨a, _ | ⟨b, _ | ⟨c, cs⟩⟩⟩ := cs <;> simp at hn
  exact ⟨a, b, ho⟩
theorem three (h : OwnR w0 g t 3 L w) : ∃ a b c, Own w0 ((g, t, #[a, b, c]) :: L) w := by
  obtain ⟨⟨cs⟩, hn, ho⟩ := h
  obtain _ | ⟨a, _ | ⟨b, _ | ⟨c, _ | ⟨d, cs⟩⟩⟩⟩ := cs <;> simp at hn
  exact ⟨a, b, c, ho⟩
theorem eight (h : OwnR w0 g t 8 L w) : ∃ a b c d e f i j, Own w0 ((g, t, #[a, b, c, d, e, f, i, j]) :: L) w := by
  obtain ⟨⟨cs⟩, hn, ho⟩ := h
  obtain _ | ⟨a, _ | ⟨b, _ | ⟨c, _ | ⟨d, _ | ⟨e, _ | ⟨f, _ | ⟨i, _ | ⟨j, _ | ⟨k, cs⟩⟩⟩⟩⟩⟩⟩⟩⟩ := cs <;> simp at hn
  exact ⟨a, b, c, d, e, f, i, j, ho⟩
theorem eleven (h : OwnR w0 g t 11 L w) : ∃ a b c d e f i j k l m, Own w0 ((g, t, #[a, b, c, d, e, f, i, j, k, l, m]) :: L) w := by
  obtain ⟨⟨cs⟩, hn, ho⟩ := h
  obtain _ | ⟨a, _ | ⟨b, _ | ⟨c, _ | ⟨d, _ | ⟨e, _ | ⟨f, _ | ⟨i, _ | ⟨j, _ | ⟨k, _ | ⟨l, _ | ⟨m, _ | ⟨o, cs⟩⟩⟩⟩⟩⟩⟩⟩⟩⟩⟩⟩ := cs <;> simp at hn
  exact ⟨a, b, c, d, e, f, i, j, k, l, m, ho⟩
theorem seventeen (h : OwnR w0 g t 17 L w) : ∃ a b c d e f i j k l m n o p q r s, Own w0 ((g, t, #[a, b, c, d, e, f, i, j, k, l, m, n, o, p, q, r, s]) :: L) w := by
  obtain ⟨⟨cs⟩, hn, ho⟩ := h
  obtain _ | ⟨a, _ | ⟨b, _ | ⟨c, _ | ⟨d, _ | ⟨e, _ | ⟨f, _ | ⟨i, _ | ⟨j, _ | ⟨k, _ | ⟨l, _ | ⟨m, _ | ⟨n, _ | ⟨o, _ | ⟨p, _ | ⟨q, _ | ⟨r, _ | ⟨s, _ | ⟨u, cs⟩⟩⟩⟩⟩⟩⟩⟩⟩⟩⟩⟩⟩⟩⟩⟩⟩⟩ := cs <;> simp at hn
  exact ⟨a, b, c, d, e, f, i, j, k, l, m, n, o, p, q, r, s, ho⟩
end OwnR
end Go.Proofs.YthhgnngpaagagaaDoor
