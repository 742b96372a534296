/-
  Plain facts on reading numbers of seven bits a byte: no program.
-/
import Derived.Test.YthhgnngpaagagaaDoorVarPl
namespace Go.Proofs.YthhgnngpaagagaaDoor
/-- The number of bytes that carry on, ten at most. -/
def leadN : Nat → List Nat → Nat
  | 0, _ => 0
  | _ + 1, [] => 0
  | f + 1, b :: l => if 128 ≤ b then leadN f l + 1 else 0
def lead (l : List Nat) : Nat := leadN 10 l
theorem leadN_eq : ∀ (f k : Nat) (l : List Nat), k ≤ f → k ≤ l.length → (∀ j, j < k → 128 ≤ l.getD j 0) → (k < f → k < l.length → l.getD k 0 < 128) → leadN f l = k
  | 0, k, _, h1, _, _, _ => by unfold leadN; omega
  | f + 1, k, [], _, h2, _, _ => by simp at h2; unfold leadN; omega
  | f + 1, 0, b :: l, _, _, _, h4 => by
    have := h4 (by omega) (by simp)
    simp at this
    unfold leadN
    rw [if_neg (by omega)]
  | f + 1, k + 1, b :: l, h1, h2, h3, h4 => by
    have hb := h3 0 (by omega)
    simp at hb h2
    unfold leadN
    rw [if_pos hb, leadN_eq f k l (by omega) h2 (fun j hj => by have := h3 (j + 1) (by omega); simpa using this) (fun a b => by have := h4 (by omega) (by simpa using b); simpa using this)]
theorem lead_eq {l : List Nat} {k : Nat} (h1 : k ≤ 10) (h2 : k ≤ l.length) (h3 : ∀ j, j < k → 128 ≤ l.getD j 0) (h4 : k < 10 → k < l.length → l.getD k 0 < 128) : lead l = k :=
  leadN_eq 10 k l h1 h2 h3 h4
theorem leadN_spec : ∀ (f : Nat) (l : List Nat), leadN f l ≤ f ∧ leadN f l ≤ l.length ∧ (∀ j, j < leadN f l → 128 ≤ l.getD j 0) ∧ (leadN f l < f → leadN f l < l.length → l.getD (leadN f l) 0 < 128)
  | 0, l => by unfold leadN; simp
  | f + 1, [] => by unfold leadN; simp
  | f + 1, b :: l => by
    obtain ⟨h1, h2, h3, h4⟩ := leadN_spec f l
    unfold leadN
    by_cases hb : 128 ≤ b
    · rw [if_pos hb]
      refine ⟨by omega, by simpa using h2, ?_, ?_⟩
      · intro j hj
        cases j with
        | zero => simpa using hb
        | succ j => have := h3 j (by omega); simpa using this
      · intro a c
        have := h4 (by omega) (by simpa using c)
        simpa using this
    · rw [if_neg hb]
      refine ⟨by omega, by omega, fun j hj => by omega, fun _ _ => by simp; omega⟩
theorem lead_spec (l : List Nat) : lead l ≤ 10 ∧ lead l ≤ l.length ∧ (∀ j, j < lead l → 128 ≤ l.getD j 0) ∧ (lead l < 10 → lead l < l.length → l.getD (lead l) 0 < 128) := leadN_spec 10 l
/-- The number of bytes, the lowest first. -/
def vval : List Nat → Nat
  | [] => 0
  | b :: l => b % 128 + 128 * vval l
theorem vval_append : ∀ (l m : List Nat), vval (l ++ m) = vval l + 128 ^ l.length * vval m
  | [], m => by simp [vval]
  | b :: l, m => by
    rw [List.cons_append, vval, vval, vval_append l m, List.length_cons, Nat.pow_succ, Nat.mul_add, ← Nat.mul_assoc, Nat.mul_comm 128 (128 ^ l.length)]
    omega
theorem vval_lt : ∀ (l : List Nat), vval l < 128 ^ l.length
  | [] => by simp [vval]
  | b :: l => by
    have := vval_lt l
    rw [vval, List.length_cons, Nat.pow_succ]
    omega
theorem take_get {l : List Nat} {k : Nat} (h : k < l.length) : l.take (k + 1) = l.take k ++ [l.getD k 0] := by
  rw [List.take_succ_eq_append_getElem h, List.getD_eq_getElem?_getD, List.getElem?_eq_getElem h]
  rfl
theorem vval_step {l : List Nat} {k : Nat} (h : k < l.length) : vval (l.take (k + 1)) = vval (l.take k) + 128 ^ k * (l.getD k 0 % 128) := by
  rw [take_get h, vval_append, List.length_take, Nat.min_eq_left (by omega)]
  simp [vval]
theorem vval_take_lt (l : List Nat) (k : Nat) : vval (l.take k) < 128 ^ k := by
  have h := vval_lt (l.take k)
  have : (l.take k).length ≤ k := by rw [List.length_take]; omega
  exact Nat.lt_of_lt_of_le h (Nat.pow_le_pow_right (by omega) this)
/-- What bytes tell: the number, how many bytes it has, what is wrong. -/
def vget (l : List Nat) : Nat × Nat × Nat :=
  if lead l = 10 then (0, 0, 11)
  else if lead l = l.length then (0, 0, 10)
  else if (lead l = 9 ∧ 1 < l.getD 9 0) ∨ (0 < lead l ∧ l.getD (lead l) 0 = 0) then (0, 0, 11)
  else (vval (l.take (lead l + 1)), lead l + 1, 0)
theorem vget_long {l : List Nat} (h : lead l = 10) : vget l = (0, 0, 11) := by unfold vget; rw [if_pos h]
theorem vget_end {l : List Nat} (h : lead l = l.length) (h' : l.length < 10) : vget l = (0, 0, 10) := by unfold vget; rw [if_neg (by omega), if_pos h]
theorem vget_form {l : List Nat} (h : lead l < 10) (h' : lead l < l.length) (hb : (lead l = 9 ∧ 1 < l.getD 9 0) ∨ (0 < lead l ∧ l.getD (lead l) 0 = 0)) : vget l = (0, 0, 11) := by
  unfold vget; rw [if_neg (by omega), if_neg (by omega), if_pos hb]
theorem vget_ok {l : List Nat} (h : lead l < 10) (h' : lead l < l.length) (hb : ¬ ((lead l = 9 ∧ 1 < l.getD 9 0) ∨ (0 < lead l ∧ l.getD (lead l) 0 = 0))) : vget l = (vval (l.take (lead l + 1)), lead l + 1, 0) := by
  unfold vget; rw [if_neg (by omega), if_neg (by omega), if_neg hb]
theorem vval_lt64 {l : List Nat} {k : Nat} (h : k < 10) (hl : k < l.length) (h9 : k = 9 → l.getD 9 0 ≤ 1) : vval (l.take (k + 1)) < 18446744073709551616 := by
  by_cases hk : k = 9
  · subst hk
    have h1 := vval_step hl
    have h2 := vval_take_lt l 9
    have h3 := h9 rfl
    have h4 : 128 ^ 9 * (l.getD 9 0 % 128) ≤ 128 ^ 9 * 1 := Nat.mul_le_mul_left _ (by omega)
    omega
  · have h2 := vval_take_lt l (k + 1)
    have h3 : (128 : Nat) ^ (k + 1) ≤ 128 ^ 9 := Nat.pow_le_pow_right (by omega) (by omega)
    omega
theorem vget_cases (l : List Nat) :
    (vget l = (0, 0, 11) ∨ vget l = (0, 0, 10)) ∨
    (lead l < 10 ∧ lead l < l.length ∧ l.getD (lead l) 0 < 128 ∧ (∀ j, j < lead l → 128 ≤ l.getD j 0) ∧ (lead l = 9 → l.getD 9 0 ≤ 1) ∧ (0 < lead l → l.getD (lead l) 0 ≠ 0) ∧ vget l = (vval (l.take (lead l + 1)), lead l + 1, 0)) := by
  obtain ⟨h1, h2, h3, h4⟩ := lead_spec l
  unfold vget
  by_cases c1 : lead l = 10
  · rw [if_pos c1]; exact .inl (.inl rfl)
  rw [if_neg c1]
  by_cases c2 : lead l = l.length
  · rw [if_pos c2]; exact .inl (.inr rfl)
  rw [if_neg c2]
  by_cases c3 : (lead l = 9 ∧ 1 < l.getD 9 0) ∨ (0 < lead l ∧ l.getD (lead l) 0 = 0)
  · rw [if_pos c3]; exact .inl (.inl rfl)
  rw [if_neg c3]
  refine .inr ⟨by omega, by omega, h4 (by omega) (by omega), h3, fun h => ?_, fun h h0 => ?_, rfl⟩
  · exact Nat.le_of_not_lt fun hc => c3 (.inl ⟨h, hc⟩)
  · exact c3 (.inr ⟨h, h0⟩)
theorem vget_lt (l : List Nat) : (vget l).1 < 18446744073709551616 ∧ (vget l).2.1 ≤ 10 ∧ (vget l).2.1 ≤ l.length := by
  rcases vget_cases l with (h | h) | ⟨h1, h2, _, _, h5, _, h⟩
  · rw [h]; simp
  · rw [h]; simp
  · rw [h]; exact ⟨vval_lt64 h1 h2 h5, by show lead l + 1 ≤ 10; omega, by show lead l + 1 ≤ _; omega⟩
theorem vget_e (l : List Nat) : (vget l).2.2 = 0 ∨ ((vget l).2.2 = 10 ∨ (vget l).2.2 = 11) ∧ (vget l).1 = 0 ∧ (vget l).2.1 = 0 := by
  rcases vget_cases l with (h | h) | ⟨_, _, _, _, _, _, h⟩ <;> rw [h] <;> simp
/-- A number has one text alone. -/
theorem vput_vval : ∀ (k : Nat) (l : List Nat), k < l.length → (∀ j, j < k → 128 ≤ l.getD j 0) → l.getD k 0 < 128 → (0 < k → l.getD k 0 ≠ 0) → (∀ j, l.getD j 0 < 256) → vput (vval (l.take (k + 1))) = l.take (k + 1) ∧ (0 < k → 0 < vval (l.take (k + 1))) ∧ (l.getD k 0 ≠ 0 → 0 < vval (l.take (k + 1)))
  | 0, b :: l, _, _, h3, _, _ => by
    have hb : b < 128 := by simpa using h3
    have e : vval ((b :: l).take (0 + 1)) = b := by
      rw [show (b :: l).take (0 + 1) = [b] by rfl]
      unfold vval
      simp [vval]; omega
    rw [e, vput_small hb]
    refine ⟨rfl, by omega, fun h => by simp at h; omega⟩
  | k + 1, b :: l, h1, h2, h3, h4, h5 => by
    have hb : 128 ≤ b := by have := h2 0 (by omega); simpa using this
    have hb2 : b < 256 := by have := h5 0; simpa using this
    have hk : l.getD k 0 ≠ 0 := by have := h4 (by omega); simpa using this
    obtain ⟨i1, _, i3⟩ := vput_vval k l (by simpa using h1) (fun j hj => by have := h2 (j + 1) (by omega); simpa using this) (by simpa using h3) (fun _ => hk) (fun j => by have := h5 (j + 1); simpa using this)
    have hp := i3 hk
    have e : (b :: l).take (k + 1 + 1) = b :: l.take (k + 1) := rfl
    rw [e]
    unfold vval
    generalize vval (l.take (k + 1)) = x at *
    have e2 : ¬ b % 128 + 128 * x < 128 := by omega
    rw [vput_big e2, show (b % 128 + 128 * x) / 128 = x by omega, i1, show (b % 128 + 128 * x) % 128 + 128 = b by omega]
    exact ⟨rfl, by omega, by omega⟩
  | _, [], h, _, _, _, _ => by simp at h
theorem vget_put {l : List Nat} (hb : ∀ j, l.getD j 0 < 256) (h : (vget l).2.2 = 0) : 1 ≤ (vget l).2.1 ∧ (vget l).2.1 ≤ l.length ∧ vput (vget l).1 = l.take (vget l).2.1 := by
  rcases vget_cases l with (h' | h') | ⟨h1, h2, h3, h4, h5, h6, h'⟩
  · rw [h'] at h; simp at h
  · rw [h'] at h; simp at h
  · rw [h']
    exact ⟨by show 1 ≤ lead l + 1; omega, by show lead l + 1 ≤ _; omega, (vput_vval _ _ h2 h4 h3 h6 hb).1⟩
theorem vput_parts (u : Nat) : ∃ k, (vput u).length = k + 1 ∧ (∀ j, j < k → 128 ≤ (vput u).getD j 0) ∧ (vput u).getD k 0 < 128 ∧ (0 < k → (vput u).getD k 0 ≠ 0) ∧ vval (vput u) = u ∧ (u ≠ 0 → (vput u).getD k 0 ≠ 0) := by
  induction u using vput.induct with
  | case1 u h =>
    rw [vput_small h]
    exact ⟨0, rfl, fun j hj => by omega, by simpa using h, by omega, by simp [vval]; omega, by simp⟩
  | case2 u h ih =>
    obtain ⟨k, i1, i2, i3, i4, i5, i6⟩ := ih
    rw [vput_big h]
    refine ⟨k + 1, by simp [i1], ?_, by simpa using i3, fun _ => ?_, ?_, fun _ => ?_⟩
    · intro j hj
      cases j with
      | zero => simp
      | succ j => have := i2 j (by omega); simpa using this
    · have := i6 (by omega)
      simpa using this
    · unfold vval; rw [i5]; omega
    · have := i6 (by omega)
      simpa using this
theorem getD_app {l m : List Nat} {j : Nat} (h : j < l.length) : (l ++ m).getD j 0 = l.getD j 0 := by
  rw [List.getD_eq_getElem?_getD, List.getD_eq_getElem?_getD, List.getElem?_append_left h]
/-- What is put is read as it was. -/
theorem vget_vput (u : Nat) (more : List Nat) (hu : u < 18446744073709551616) : vget (vput u ++ more) = (u, (vput u).length, 0) := by
  obtain ⟨k, i1, i2, i3, i4, i5, _⟩ := vput_parts u
  have hl := vput_len10 hu
  have e : lead (vput u ++ more) = k := lead_eq (by omega) (by simp; omega) (fun j hj => by rw [getD_app (by omega)]; exact i2 j hj) (fun _ _ => by rw [getD_app (by omega)]; exact i3)
  have et : (vput u ++ more).take (k + 1) = vput u := by rw [← i1, List.take_left]
  rw [vget_ok (by omega) (by rw [e]; simp; omega), e, et, i5, i1]
  rw [e]
  rintro (⟨h9, hb⟩ | ⟨hk, hb⟩)
  · rw [getD_app (by omega)] at hb
    have h1 := vval_step (l := vput u) (k := 9) (by omega)
    have h2 : (vput u).take (9 + 1) = vput u := List.take_of_length_le (by omega)
    rw [h2, i5] at h1
    have h4 : (vput u).getD 9 0 < 128 := by rw [← h9]; exact i3
    have h3 : 128 ^ 9 * 2 ≤ 128 ^ 9 * ((vput u).getD 9 0 % 128) := Nat.mul_le_mul_left _ (by omega)
    omega
  · rw [getD_app (by omega)] at hb
    exact i4 hk hb
/-- Fewer bytes than were put are not whole. -/
theorem vget_cut (u m : Nat) (hm : m < (vput u).length) (hu : u < 18446744073709551616) : vget ((vput u).take m) = (0, 0, 10) := by
  obtain ⟨k, i1, i2, _⟩ := vput_parts u
  have hl := vput_len10 hu
  have e : ((vput u).take m).length = m := by rw [List.length_take]; omega
  refine vget_end (lead_eq (by omega) (Nat.le_refl _) (fun j hj => ?_) (fun _ h => by omega)) (by omega)
  rw [List.getD_eq_getElem?_getD, List.getElem?_take_of_lt (by omega), ← List.getD_eq_getElem?_getD]
  exact i2 j (by omega)
end Go.Proofs.YthhgnngpaagagaaDoor
