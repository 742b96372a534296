/-
  What points have, plainly: how many, their sum, ends; that it hangs on no order.
-/
import Derived.Test.YthhgnngpaagagaaDoorAgG
namespace Go.Proofs.YthhgnngpaagagaaDoor
/-- p is ahead of q. -/
def ltP (p q : Pt) : Prop := p.t < q.t ∨ p.t = q.t ∧ (p.s < q.s ∨ p.s = q.s ∧ p.v < q.v)
theorem ordI_lt (p q : Pt) : ordI p q < 0 ↔ ltP p q := by
  unfold ordI orI cmpI ltP
  repeat' split
  all_goals (simp at *; try omega)
theorem ordI_gt (p q : Pt) : 0 < ordI p q ↔ ltP q p := by
  unfold ordI orI cmpI ltP
  repeat' split
  all_goals (simp at *; try omega)
theorem ltP_irrefl (p : Pt) : ¬ ltP p p := by unfold ltP; omega
theorem ltP_trans {p q r : Pt} (h : ltP p q) (h' : ltP q r) : ltP p r := by unfold ltP at *; omega
theorem ltP_tri {p q : Pt} (h : ¬ ltP p q) (h' : ¬ ltP q p) : p = q := by
  obtain ⟨a, b, c⟩ := p
  obtain ⟨a', b', c'⟩ := q
  simp only [ltP] at *
  simp only [Pt.mk.injEq]
  omega
theorem ltP_not {p q r : Pt} (h : ¬ ltP p q) (h' : ¬ ltP q r) : ¬ ltP p r := by unfold ltP at *; omega
def sumV' : List Pt → Int
  | [] => 0
  | p :: l => p.v + sumV' l
theorem sumV'_append (l l' : List Pt) : sumV' (l ++ l') = sumV' l + sumV' l' := by
  induction l with
  | nil => simp [sumV']
  | cons p l ih => simp only [List.cons_append, sumV', ih]; omega
theorem sumV'_perm {l l' : List Pt} (h : l.Perm l') : sumV' l = sumV' l' := by
  induction h with
  | nil => rfl
  | cons p _ ih => simp only [sumV', ih]
  | swap p q l => simp only [sumV']; omega
  | trans _ _ h1 h2 => omega
/-- a is what the points of l, of which there are some, have. -/
structure Has (ps : List Pt) (a : Ag) : Prop where
  n : a.n = ps.length
  s : a.s = sumV' ps
  lo : ∃ p ∈ ps, p.v = a.lo
  lo_le : ∀ p ∈ ps, a.lo ≤ p.v
  hi : ∃ p ∈ ps, p.v = a.hi
  hi_le : ∀ p ∈ ps, p.v ≤ a.hi
  fi : a.f ∈ ps
  f_le : ∀ p ∈ ps, ¬ ltP p a.f
  la : a.l ∈ ps
  l_le : ∀ p ∈ ps, ¬ ltP a.l p
theorem Has.uniq {l l' : List Pt} {a b : Ag} (h : Has l a) (h' : Has l' b) (hp : l.Perm l') : a = b := by
  obtain ⟨n, s, lo, hi, f, z⟩ := a
  obtain ⟨n', s', lo', hi', f', z'⟩ := b
  have e1 := h.n; have e2 := h'.n; have e3 := hp.length_eq; have e4 := h.s; have e5 := h'.s; have e6 := sumV'_perm hp
  obtain ⟨p1, m1, v1⟩ := h.lo
  obtain ⟨p2, m2, v2⟩ := h'.lo
  have l1 := h.lo_le p2 (hp.mem_iff.2 m2)
  have l2 := h'.lo_le p1 (hp.mem_iff.1 m1)
  obtain ⟨p3, m3, v3⟩ := h.hi
  obtain ⟨p4, m4, v4⟩ := h'.hi
  have l3 := h.hi_le p4 (hp.mem_iff.2 m4)
  have l4 := h'.hi_le p3 (hp.mem_iff.1 m3)
  have l5 := ltP_tri (h'.f_le f (hp.mem_iff.1 h.fi)) (h.f_le f' (hp.mem_iff.2 h'.fi))
  have l6 := ltP_tri (h.l_le z' (hp.mem_iff.2 h'.la)) (h'.l_le z (hp.mem_iff.1 h.la))
  simp only at *
  subst l5 l6
  simp only [Ag.mk.injEq, and_true]
  omega
theorem Has.one (p : Pt) : Has [p] (ofA p) :=
  ⟨rfl, by simp [ofA, sumV'], ⟨p, by simp, rfl⟩, by simp [ofA], ⟨p, by simp, rfl⟩, by simp [ofA], by simp [ofA], by simp [ofA, ltP_irrefl], by simp [ofA], by simp [ofA, ltP_irrefl]⟩
theorem Has.merge {l l' : List Pt} {a b : Ag} (h : Has l a) (h' : Has l' b) : Has (l ++ l') (mergeA a b) := by
  have e1 := h.n; have e2 := h'.n; have e4 := h.s; have e5 := h'.s
  have hlo : (mergeA a b).lo = if b.lo < a.lo then b.lo else a.lo := rfl
  have hhi : (mergeA a b).hi = if a.hi < b.hi then b.hi else a.hi := rfl
  have hf : (mergeA a b).f = if ordI b.f a.f < 0 then b.f else a.f := rfl
  have hl : (mergeA a b).l = if 0 < ordI b.l a.l then b.l else a.l := rfl
  refine ⟨?_, ?_, ?_, ?_, ?_, ?_, ?_, ?_, ?_, ?_⟩
  · show a.n + b.n = _; rw [List.length_append]; omega
  · show a.s + b.s = _; rw [sumV'_append]; omega
  · obtain ⟨p, m, v⟩ := h.lo
    obtain ⟨p', m', v'⟩ := h'.lo
    by_cases c : b.lo < a.lo
    · exact ⟨p', List.mem_append_right _ m', by rw [hlo, if_pos c]; exact v'⟩
    · exact ⟨p, List.mem_append_left _ m, by rw [hlo, if_neg c]; exact v⟩
  · intro p hp
    rw [hlo]
    rcases List.mem_append.1 hp with m | m
    · have := h.lo_le p m; split <;> omega
    · have := h'.lo_le p m; split <;> omega
  · obtain ⟨p, m, v⟩ := h.hi
    obtain ⟨p', m', v'⟩ := h'.hi
    by_cases c : a.hi < b.hi
    · exact ⟨p', List.mem_append_right _ m', by rw [hhi, if_pos c]; exact v'⟩
    · exact ⟨p, List.mem_append_left _ m, by rw [hhi, if_neg c]; exact v⟩
  · intro p hp
    rw [hhi]
    rcases List.mem_append.1 hp with m | m
    · have := h.hi_le p m; split <;> omega
    · have := h'.hi_le p m; split <;> omega
  · rw [hf]
    by_cases c : ordI b.f a.f < 0
    · rw [if_pos c]; exact List.mem_append_right _ h'.fi
    · rw [if_neg c]; exact List.mem_append_left _ h.fi
  · intro p hp
    rw [hf]
    by_cases c : ordI b.f a.f < 0
    · rw [if_pos c]
      have c' := (ordI_lt _ _).1 c
      rcases List.mem_append.1 hp with m | m
      · exact fun e => h.f_le p m (ltP_trans e c')
      · exact h'.f_le p m
    · rw [if_neg c]
      rw [ordI_lt] at c
      rcases List.mem_append.1 hp with m | m
      · exact h.f_le p m
      · exact ltP_not (h'.f_le p m) c
  · rw [hl]
    by_cases c : 0 < ordI b.l a.l
    · rw [if_pos c]; exact List.mem_append_right _ h'.la
    · rw [if_neg c]; exact List.mem_append_left _ h.la
  · intro p hp
    rw [hl]
    by_cases c : 0 < ordI b.l a.l
    · rw [if_pos c]
      have c' := (ordI_gt _ _).1 c
      rcases List.mem_append.1 hp with m | m
      · exact fun e => h.l_le p m (ltP_trans c' e)
      · exact h'.l_le p m
    · rw [if_neg c]
      rw [ordI_gt] at c
      rcases List.mem_append.1 hp with m | m
      · exact h.l_le p m
      · exact ltP_not c (h'.l_le p m)
/-- The first k points. -/
def upTo (f : Nat → Pt) (k : Nat) : List Pt := (List.range k).map f
theorem upTo_length (f : Nat → Pt) (k : Nat) : (upTo f k).length = k := by simp [upTo]
theorem upTo_succ (f : Nat → Pt) (k : Nat) : upTo f (k + 1) = upTo f k ++ [f k] := by simp [upTo, List.range_succ]
theorem upTo_mem (f : Nat → Pt) (k : Nat) (p : Pt) : p ∈ upTo f k ↔ ∃ j, j < k ∧ f j = p := by simp [upTo]
theorem upTo_add (f : Nat → Pt) (m n : Nat) : upTo f (m + n) = upTo f m ++ upTo (fun j => f (m + j)) n := by
  induction n with
  | zero => simp [upTo]
  | succ n ih => rw [← Nat.add_assoc, upTo_succ, ih, upTo_succ, List.append_assoc]
theorem all_has (f : Nat → Pt) (hf : ∀ j, PtOk (f j)) : ∀ k, 0 < k → k ≤ 4294967296 → Has (upTo f k) (allA f k)
  | 0, h, _ => absurd h (by omega)
  | k + 1, _, h => by
    have hs := allA_succ f hf k (by omega)
    have hm := merge_of (allA_is f hf k (by omega)) (hf k) (by omega)
    rw [hs] at hm
    injection hm with hm _
    rw [hm, upTo_succ]
    rcases Nat.eq_zero_or_pos k with h0 | h0
    · subst h0
      exact Has.one (f 0)
    · rw [if_neg (by omega)]
      exact (all_has f hf k h0 (by omega)).merge (Has.one (f k))
theorem Has.sum {l : List Pt} {a : Ag} (h : Has l a) : a.n * a.lo ≤ a.s ∧ a.s ≤ a.n * a.hi := by
  have aux : ∀ (m : List Pt) (x y : Int), (∀ p ∈ m, x ≤ p.v) → (∀ p ∈ m, p.v ≤ y) → (m.length : Int) * x ≤ sumV' m ∧ sumV' m ≤ (m.length : Int) * y := by
    intro m
    induction m with
    | nil => intro x y _ _; simp [sumV']
    | cons p m ih =>
      intro x y h1 h2
      have := ih x y (fun q hq => h1 q (List.mem_cons_of_mem _ hq)) (fun q hq => h2 q (List.mem_cons_of_mem _ hq))
      have a1 := h1 p List.mem_cons_self
      have a2 := h2 p List.mem_cons_self
      rw [List.length_cons, Int.natCast_add, Int.add_mul, Int.add_mul, sumV']
      omega
  rw [h.n, h.s]
  exact aux l _ _ h.lo_le h.hi_le
end Go.Proofs.YthhgnngpaagagaaDoor
