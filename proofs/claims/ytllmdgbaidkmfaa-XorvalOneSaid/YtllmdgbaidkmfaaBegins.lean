/-
  Bytes that begin with bits: read and written, both ways. No program.
-/
import Derived.Test.YtllmdgbaidkmfaaPackB
namespace Go.Proofs.Ytllmdgbaidkmfaa
theorem gets_bit (bs : List Nat) (p n j : Nat) (h : j < n) : gets bs p n / 2 ^ (n - 1 - j) % 2 = bitOf bs (p + j) := by
  induction n with
  | zero => omega
  | succ n ih =>
    have hb := bitOf_lt bs (p + n)
    rcases Nat.lt_or_ge j n with hj | hj
    · rw [show n + 1 - 1 - j = (n - 1 - j) + 1 by omega, Nat.pow_succ, Nat.mul_comm, ← Nat.div_div_eq_div_mul, gets]
      rw [show (2 * gets bs p n + bitOf bs (p + n)) / 2 = gets bs p n by omega]
      exact ih hj
    · obtain rfl : j = n := by omega
      rw [show j + 1 - 1 - j = 0 by omega, gets]
      simp only [Nat.pow_zero, Nat.div_one]
      omega
theorem byte_ext {x y : Nat} (hx : x < 256) (hy : y < 256) (h : ∀ r, r < 8 → x / 2 ^ (7 - r) % 2 = y / 2 ^ (7 - r) % 2) : x = y := by
  have h0 := h 0 (by omega)
  have h1 := h 1 (by omega)
  have h2 := h 2 (by omega)
  have h3 := h 3 (by omega)
  have h4 := h 4 (by omega)
  have h5 := h 5 (by omega)
  have h6 := h 6 (by omega)
  have h7 := h 7 (by omega)
  simp at h0 h1 h2 h3 h4 h5 h6 h7
  omega
theorem bytes_ext {a b : List Nat} (hl : a.length = b.length) (ha : ∀ j, a.getD j 0 < 256) (hb : ∀ j, b.getD j 0 < 256) (h : ∀ i, i < 8 * a.length → bitOf a i = bitOf b i) : a = b := by
  apply List.ext_getElem hl
  intro i h1 h2
  have e : a.getD i 0 = b.getD i 0 := by
    refine byte_ext (ha i) (hb i) fun r hr => ?_
    have := h (8 * i + r) (by omega)
    unfold bitOf at this
    rw [show (8 * i + r) / 8 = i by omega, show (8 * i + r) % 8 = r by omega] at this
    exact this
  rw [List.getD_eq_getElem?_getD, List.getD_eq_getElem?_getD, List.getElem?_eq_getElem h1, List.getElem?_eq_getElem h2] at e
  exact e
/-- The bytes' first bits are L. -/
structure Begins (bs L : List Nat) : Prop where
  le : L.length ≤ 8 * bs.length
  eq : ∀ i, i < L.length → bitOf bs i = L.getD i 0
namespace Begins
variable {bs L M : List Nat} {n v : Nat}
theorem nil (bs : List Nat) : Begins bs [] := ⟨Nat.zero_le _, fun i h => absurd h (by simp)⟩
theorem put (h : Begins bs L) (hn : L.length + n ≤ 8 * bs.length) (hv : gets bs L.length n = v) : Begins bs (L ++ bitsTo v n n) := by
  refine ⟨by rw [List.length_append, bitsTo_length]; exact hn, fun i hi => ?_⟩
  rw [List.length_append, bitsTo_length] at hi
  rcases Nat.lt_or_ge i L.length with hl | hl
  · rw [getD_append_left _ _ _ hl]; exact h.eq i hl
  · obtain ⟨j, rfl⟩ : ∃ j, i = L.length + j := ⟨i - L.length, by omega⟩
    rw [getD_append_right, bitsTo_getD _ _ _ _ (by omega), ← hv, gets_bit _ _ _ _ (by omega)]
theorem pre (h : Begins bs (L ++ M)) : Begins bs L := by
  refine ⟨by have := h.le; rw [List.length_append] at this; omega, fun i hi => ?_⟩
  rw [h.eq i (by rw [List.length_append]; omega), getD_append_left _ _ _ hi]
theorem get (h : Begins bs (L ++ bitsTo v n n)) (hv : v < 2 ^ n) : gets bs L.length n = v := by
  have := gets_congr (bs := bs) (p := L.length) (u := v) (n := n) (fun j hj => by
    rw [h.eq _ (by rw [List.length_append, bitsTo_length]; omega), getD_append_right, bitsTo_getD _ _ _ _ hj]) n (Nat.le_refl _)
  rw [this]
  simp [Nat.mod_eq_of_lt hv]
theorem room (h : Begins bs (L ++ M)) : L.length + M.length ≤ 8 * bs.length := by have := h.le; rw [List.length_append] at this; exact this
theorem bit (h : Begins bs (L ++ M)) (j : Nat) (hj : j < M.length) : bitOf bs (L.length + j) = M.getD j 0 := by
  rw [h.eq _ (by rw [List.length_append]; omega), getD_append_right]
theorem snoc (h : Begins bs L) (hn : L.length < 8 * bs.length) {b : Nat} (hb : bitOf bs L.length = b) : Begins bs (L ++ [b]) := by
  refine ⟨by rw [List.length_append]; simp; omega, fun i hi => ?_⟩
  rw [List.length_append] at hi
  simp at hi
  rcases Nat.lt_or_ge i L.length with hl | hl
  · rw [getD_append_left _ _ _ hl]; exact h.eq i hl
  · obtain rfl : i = L.length := by omega
    rw [hb, getD_snoc_eq]
theorem pack {L : List Nat} (h : ∀ j, L.getD j 0 < 2) : Begins (pack L) L :=
  ⟨by rw [pack_length]; omega, fun i _ => bitOf_pack h i⟩
theorem all (h : Begins bs L) (hb : ∀ j, bs.getD j 0 < 256) (hL : ∀ j, L.getD j 0 < 2) (hend : 8 * bs.length < L.length + 8) (h0 : gets bs L.length (8 * bs.length - L.length) = 0) : bs = Go.Proofs.Ytllmdgbaidkmfaa.pack L := by
  have hle := h.le
  refine bytes_ext (by rw [pack_length]; omega) hb (fun j => by rw [pack_getD]; exact byteAt_lt hL j) fun i hi => ?_
  rw [bitOf_pack hL]
  rcases Nat.lt_or_ge i L.length with hl | hl
  · exact h.eq i hl
  · obtain ⟨j, rfl⟩ : ∃ j, i = L.length + j := ⟨i - L.length, by omega⟩
    rw [← gets_bit bs L.length (8 * bs.length - L.length) j (by omega), h0, getD_ge L _ (by omega)]
    simp
end Begins
theorem gets_zero {bs : List Nat} {p : Nat} : ∀ n, (∀ j, j < n → bitOf bs (p + j) = 0) → gets bs p n = 0
  | 0, _ => rfl
  | n + 1, h => by rw [gets, gets_zero n (fun j hj => h j (by omega)), h n (by omega)]
theorem gets_pack_end {L : List Nat} (h : ∀ j, L.getD j 0 < 2) (n : Nat) : gets (pack L) L.length n = 0 :=
  gets_zero n fun j _ => by rw [bitOf_pack h, getD_ge L _ (by omega)]
end Go.Proofs.Ytllmdgbaidkmfaa
