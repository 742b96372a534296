/-
  In which order, and in which groups, points are merged does not matter; what points have may be. No program.
-/
import Derived.Test.YthhgnngpaagagaaDoorAgH
import Derived.Test.YthhgnngpaagagaaDoorAgL
namespace Go.Proofs.YthhgnngpaagagaaDoor
theorem upTo_rev (g : Nat → Pt) (n : Nat) : upTo (fun j => g (n - 1 - j)) n = (upTo g n).reverse := by
  apply List.ext_getElem
  · simp [upTo]
  · intro i h1 h2
    simp only [upTo, List.length_map, List.length_range] at h1
    simp [upTo]
theorem all_rev (g : Nat → Pt) (hg : ∀ j, PtOk (g j)) (n : Nat) (hn : n ≤ 4294967296) : allA (fun j => g (n - 1 - j)) n = allA g n := by
  rcases Nat.eq_zero_or_pos n with h0 | h0
  · subst h0; rfl
  · refine (all_has _ (fun j => hg _) n h0 hn).uniq (all_has g hg n h0 hn) ?_
    rw [upTo_rev]
    exact List.reverse_perm _
theorem all_congr {f g : Nat → Pt} : ∀ n, (∀ j, j < n → f j = g j) → allA f n = allA g n
  | 0, _ => rfl
  | n + 1, h => by
    unfold allA
    rw [all_congr n (fun j hj => h j (by omega)), h n (by omega)]
theorem all_cut (g : Nat → Pt) (hg : ∀ j, PtOk (g j)) (m k : Nat) (hn : m + k ≤ 4294967296) : mergeR (allA (fun j => g (m + j)) k) (allA g m) = (allA g (m + k), 0) := by
  have i1 := allA_is (fun j => g (m + j)) (fun j => hg _) k (by omega)
  have i2 := allA_is g hg m (by omega)
  have n1 := i1.n
  have n2 := i2.n
  have s1 := i1.s
  have s2 := i2.s
  unfold mergeR
  rw [if_neg (by omega)]
  rcases Nat.eq_zero_or_pos k with hk | hk
  · subst hk
    rcases Nat.eq_zero_or_pos m with hm | hm
    · subst hm
      rw [if_pos ⟨rfl, rfl⟩]
      rfl
    · rw [if_neg (by omega), if_pos (by omega)]
      rfl
  · rcases Nat.eq_zero_or_pos m with hm | hm
    · subst hm
      rw [if_neg (by omega), if_neg (by omega), if_pos (by omega)]
      rw [all_congr (g := g) k (fun j _ => by rw [Nat.zero_add])]
      rw [Nat.zero_add]
    · rw [if_neg (by omega), if_neg (by omega), if_neg (by omega), if_neg]
      · have h1 := all_has (fun j => g (m + j)) (fun j => hg _) k hk (by omega)
        have h2 := all_has g hg m hm (by omega)
        have h3 := all_has g hg (m + k) (by omega) hn
        rw [(h1.merge h2).uniq h3 (by rw [upTo_add]; exact List.perm_append_comm)]
      · rintro (h | h | h)
        · apply h; unfold S128; omega
        · omega
        · omega
theorem all_valid (g : Nat → Pt) (hg : ∀ j, PtOk (g j)) (n : Nat) (hn : n ≤ 4294967296) : validA (allA g n) = true := by
  rcases Nat.eq_zero_or_pos n with h0 | h0
  · subst h0; rfl
  · have h := all_has g hg n h0 hn
    have hl := upTo_length g n
    have e1 := h.n
    rw [hl] at e1
    obtain ⟨u1, u2⟩ := h.sum
    obtain ⟨p, hp, _⟩ := h.lo
    have v1 := h.lo_le _ h.fi
    have v2 := h.hi_le _ h.fi
    have v3 := h.lo_le _ h.la
    have v4 := h.hi_le _ h.la
    have v5 := h.f_le _ h.la
    generalize allA g n = a at *
    unfold validA
    rw [Int.mul_comm] at u1 u2
    rw [if_neg (by omega), if_neg (by omega), if_neg (by omega), if_neg (by omega), if_neg (by omega), if_neg (by omega), if_neg (by rw [ordI_lt]; exact v5), if_neg (by omega), if_neg (by omega)]
    by_cases c : 1 < a.n
    · rw [if_pos c]
    · rw [if_neg c]
      have hn1 : n = 1 := by omega
      subst hn1
      have hu : upTo g 1 = [g 0] := by simp [upTo, List.range_succ]
      rw [hu] at h
      have f1 := h.fi
      have f2 := h.la
      obtain ⟨p1, m1, q1⟩ := h.lo
      obtain ⟨p2, m2, q2⟩ := h.hi
      simp only [List.mem_singleton] at f1 f2 m1 m2
      rw [if_neg (by rw [f1, f2, eqP_self]; simp)]
      subst m1 m2
      rw [← q1, ← q2]
      simp
end Go.Proofs.YthhgnngpaagagaaDoor
