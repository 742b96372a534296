/-
  Plain facts on bits that are put: no program.
-/
import Derived.Test.YtboecnakndpgfaaBitPl
namespace Go.Proofs.Ytboecnakndpgfaa
/-- Byte j of bits. -/
def byteAt (L : List Nat) (j : Nat) : Nat :=
  128 * L.getD (8 * j) 0 + 64 * L.getD (8 * j + 1) 0 + 32 * L.getD (8 * j + 2) 0 + 16 * L.getD (8 * j + 3) 0 + 8 * L.getD (8 * j + 4) 0 + 4 * L.getD (8 * j + 5) 0 + 2 * L.getD (8 * j + 6) 0 + L.getD (8 * j + 7) 0
/-- Bits as bytes, with bits 0 up to a whole byte. -/
def pack (L : List Nat) : List Nat := (List.range ((L.length + 7) / 8)).map (byteAt L)
/-- The bits of a number: the first k of the lowest n ones, the highest of them first. -/
def bitsTo (v n k : Nat) : List Nat := (List.range k).map fun j => v / 2 ^ (n - 1 - j) % 2
theorem bitsTo_zero (v n : Nat) : bitsTo v n 0 = [] := rfl
theorem bitsTo_succ (v n k : Nat) : bitsTo v n (k + 1) = bitsTo v n k ++ [v / 2 ^ (n - 1 - k) % 2] := by
  unfold bitsTo; rw [List.range_succ, List.map_append]; rfl
theorem bitsTo_length (v n k : Nat) : (bitsTo v n k).length = k := by simp [bitsTo]
theorem bits_snoc {L : List Nat} (h : ∀ j, L.getD j 0 < 2) {b : Nat} (hb : b < 2) : ∀ j, (L ++ [b]).getD j 0 < 2 := by
  intro j
  rw [List.getD_eq_getElem?_getD]
  rcases Nat.lt_trichotomy j L.length with h1 | h1 | h1
  · rw [List.getElem?_append_left h1, ← List.getD_eq_getElem?_getD]; exact h j
  · subst h1; simpa using hb
  · rw [List.getElem?_eq_none (by simp; omega)]; simp
theorem getD_snoc_lt (L : List Nat) (b j : Nat) (h : j < L.length) : (L ++ [b]).getD j 0 = L.getD j 0 := by
  rw [List.getD_eq_getElem?_getD, List.getD_eq_getElem?_getD, List.getElem?_append_left h]
theorem getD_snoc_eq (L : List Nat) (b : Nat) : (L ++ [b]).getD L.length 0 = b := by
  rw [List.getD_eq_getElem?_getD]; simp
theorem getD_ge (L : List Nat) (j : Nat) (h : L.length ≤ j) : L.getD j 0 = 0 := by
  rw [List.getD_eq_getElem?_getD, List.getElem?_eq_none h]; rfl
theorem getD_snoc (L : List Nat) (b j : Nat) : (L ++ [b]).getD j 0 = L.getD j 0 + if j = L.length then b else 0 := by
  rcases Nat.lt_trichotomy j L.length with h1 | h1 | h1
  · rw [getD_snoc_lt L b j h1, if_neg (by omega)]; omega
  · subst h1; rw [getD_snoc_eq, getD_ge L _ (Nat.le_refl _)]; simp
  · rw [getD_ge L j (by omega), getD_ge (L ++ [b]) j (by simp; omega), if_neg (by omega)]
theorem pack_length (L : List Nat) : (pack L).length = (L.length + 7) / 8 := by simp [pack]
theorem byteAt_ge (L : List Nat) (j : Nat) (h : L.length ≤ 8 * j) : byteAt L j = 0 := by
  unfold byteAt
  rw [getD_ge L _ h, getD_ge L (8 * j + 1) (by omega), getD_ge L (8 * j + 2) (by omega), getD_ge L (8 * j + 3) (by omega), getD_ge L (8 * j + 4) (by omega), getD_ge L (8 * j + 5) (by omega), getD_ge L (8 * j + 6) (by omega), getD_ge L (8 * j + 7) (by omega)]
theorem pack_getD (L : List Nat) (j : Nat) : (pack L).getD j 0 = byteAt L j := by
  rw [List.getD_eq_getElem?_getD, pack, List.getElem?_map]
  rcases Nat.lt_or_ge j ((L.length + 7) / 8) with h | h
  · rw [List.getElem?_range h]; rfl
  · rw [List.getElem?_eq_none (by simpa using h), byteAt_ge L j (by omega)]; rfl
theorem byteAt_lt {L : List Nat} (h : ∀ j, L.getD j 0 < 2) (j : Nat) : byteAt L j < 256 := by
  unfold byteAt
  have := h (8 * j); have := h (8 * j + 1); have := h (8 * j + 2); have := h (8 * j + 3); have := h (8 * j + 4); have := h (8 * j + 5); have := h (8 * j + 6); have := h (8 * j + 7)
  omega
/-- A bit more: its byte is more by it. -/
theorem byteAt_snoc (L : List Nat) (b j : Nat) : byteAt (L ++ [b]) j = byteAt L j + if j = L.length / 8 then b * 2 ^ (7 - L.length % 8) else 0 := by
  unfold byteAt
  simp only [getD_snoc]
  rcases Nat.lt_or_ge (L.length / 8) j with h1 | h1
  · rw [if_neg (show ¬ 8 * j = L.length by omega), if_neg (show ¬ 8 * j + 1 = L.length by omega), if_neg (show ¬ 8 * j + 2 = L.length by omega), if_neg (show ¬ 8 * j + 3 = L.length by omega), if_neg (show ¬ 8 * j + 4 = L.length by omega), if_neg (show ¬ 8 * j + 5 = L.length by omega), if_neg (show ¬ 8 * j + 6 = L.length by omega), if_neg (show ¬ 8 * j + 7 = L.length by omega), if_neg (show ¬ j = L.length / 8 by omega)]
    omega
  · rcases Nat.lt_or_ge j (L.length / 8) with h2 | h2
    · rw [if_neg (show ¬ 8 * j = L.length by omega), if_neg (show ¬ 8 * j + 1 = L.length by omega), if_neg (show ¬ 8 * j + 2 = L.length by omega), if_neg (show ¬ 8 * j + 3 = L.length by omega), if_neg (show ¬ 8 * j + 4 = L.length by omega), if_neg (show ¬ 8 * j + 5 = L.length by omega), if_neg (show ¬ 8 * j + 6 = L.length by omega), if_neg (show ¬ 8 * j + 7 = L.length by omega), if_neg (show ¬ j = L.length / 8 by omega)]
      omega
    · obtain rfl : j = L.length / 8 := by omega
      rw [if_pos (show L.length / 8 = L.length / 8 from rfl)]
      have hr : L.length % 8 < 8 := Nat.mod_lt _ (by omega)
      have hd := Nat.div_add_mod L.length 8
      obtain ⟨q, hq⟩ : ∃ q, q = L.length / 8 := ⟨_, rfl⟩
      obtain ⟨r, hrr⟩ : ∃ r, r = L.length % 8 := ⟨_, rfl⟩
      rw [← hrr] at hr hd ⊢
      rw [← hq] at hd ⊢
      generalize L.length = n at *
      rcases (show r = 0 ∨ r = 1 ∨ r = 2 ∨ r = 3 ∨ r = 4 ∨ r = 5 ∨ r = 6 ∨ r = 7 by omega) with h | h | h | h | h | h | h | h
      all_goals
        subst h
        subst hd
        simp
        omega
/-- Its byte has bits 0 from there on. -/
theorem byteAt_mul (L : List Nat) : ∃ x, byteAt L (L.length / 8) = x * 2 ^ (8 - L.length % 8) := by
  have hr : L.length % 8 < 8 := Nat.mod_lt _ (by omega)
  have hd := Nat.div_add_mod L.length 8
  have hg : ∀ j, L.length ≤ j → L.getD j 0 = 0 := fun j hj => getD_ge L j hj
  obtain ⟨q, hq⟩ : ∃ q, q = L.length / 8 := ⟨_, rfl⟩
  obtain ⟨r, hrr⟩ : ∃ r, r = L.length % 8 := ⟨_, rfl⟩
  rw [← hrr] at hr hd ⊢
  rw [← hq] at hd ⊢
  have z0 : r = 0 → L.getD (8 * q) 0 = 0 := fun _ => hg _ (by omega)
  have z1 : r ≤ 1 → L.getD (8 * q + 1) 0 = 0 := fun _ => hg _ (by omega)
  have z2 : r ≤ 2 → L.getD (8 * q + 2) 0 = 0 := fun _ => hg _ (by omega)
  have z3 : r ≤ 3 → L.getD (8 * q + 3) 0 = 0 := fun _ => hg _ (by omega)
  have z4 : r ≤ 4 → L.getD (8 * q + 4) 0 = 0 := fun _ => hg _ (by omega)
  have z5 : r ≤ 5 → L.getD (8 * q + 5) 0 = 0 := fun _ => hg _ (by omega)
  have z6 : r ≤ 6 → L.getD (8 * q + 6) 0 = 0 := fun _ => hg _ (by omega)
  have z7 : r ≤ 7 → L.getD (8 * q + 7) 0 = 0 := fun _ => hg _ (by omega)
  unfold byteAt
  clear hg
  generalize L.getD (8 * q) 0 = b0 at *
  generalize L.getD (8 * q + 1) 0 = b1 at *
  generalize L.getD (8 * q + 2) 0 = b2 at *
  generalize L.getD (8 * q + 3) 0 = b3 at *
  generalize L.getD (8 * q + 4) 0 = b4 at *
  generalize L.getD (8 * q + 5) 0 = b5 at *
  generalize L.getD (8 * q + 6) 0 = b6 at *
  generalize L.getD (8 * q + 7) 0 = b7 at *
  rcases (show r = 0 ∨ r = 1 ∨ r = 2 ∨ r = 3 ∨ r = 4 ∨ r = 5 ∨ r = 6 ∨ r = 7 by omega) with h | h | h | h | h | h | h | h
  · exact ⟨0, by omega⟩
  · exact ⟨b0, by rw [h]; omega⟩
  · exact ⟨2 * b0 + b1, by rw [h]; omega⟩
  · exact ⟨4 * b0 + 2 * b1 + b2, by rw [h]; omega⟩
  · exact ⟨8 * b0 + 4 * b1 + 2 * b2 + b3, by rw [h]; omega⟩
  · exact ⟨16 * b0 + 8 * b1 + 4 * b2 + 2 * b3 + b4, by rw [h]; omega⟩
  · exact ⟨32 * b0 + 16 * b1 + 8 * b2 + 4 * b3 + 2 * b4 + b5, by rw [h]; omega⟩
  · exact ⟨64 * b0 + 32 * b1 + 16 * b2 + 8 * b3 + 4 * b4 + 2 * b5 + b6, by rw [h]; omega⟩
theorem byteAt_or (L : List Nat) (b : Nat) (hb : b < 2) : byteAt L (L.length / 8) ||| b * 2 ^ (7 - L.length % 8) = byteAt (L ++ [b]) (L.length / 8) := by
  rw [byteAt_snoc, if_pos rfl]
  obtain ⟨x, hx⟩ := byteAt_mul L
  rw [hx]
  have hr : L.length % 8 < 8 := Nat.mod_lt _ (by omega)
  generalize L.length % 8 = r at *
  have hlt : b * 2 ^ (7 - r) < 2 ^ (8 - r) := by
    rw [show 8 - r = (7 - r) + 1 by omega, Nat.pow_succ]
    have : 0 < 2 ^ (7 - r) := Nat.pow_pos (by omega)
    rcases (show b = 0 ∨ b = 1 by omega) with rfl | rfl <;> omega
  have h := Nat.shiftLeft_add_eq_or_of_lt hlt x
  rw [Nat.shiftLeft_eq] at h
  exact h.symm
/-- The bytes behind one bit more. -/
def oneMore (L : List Nat) : List Nat := if L.length % 8 = 0 then pack L ++ [0] else pack L
theorem oneMore_length (L : List Nat) : (oneMore L).length = L.length / 8 + 1 := by
  unfold oneMore; split
  · rw [List.length_append, pack_length]; simp; omega
  · rw [pack_length]; omega
theorem oneMore_getD (L : List Nat) : (oneMore L).getD (L.length / 8) 0 = byteAt L (L.length / 8) := by
  unfold oneMore; split
  · next h =>
    have hl : (pack L).length = L.length / 8 := by rw [pack_length]; omega
    rw [← hl, getD_snoc_eq, hl, byteAt_ge L _ (by omega)]
  · exact pack_getD L _
theorem pack_snoc (L : List Nat) (b : Nat) (hb : b < 2) : (oneMore L).set (L.length / 8) (byteAt L (L.length / 8) ||| b * 2 ^ (7 - L.length % 8)) = pack (L ++ [b]) := by
  rw [byteAt_or L b hb]
  have hlen : (pack (L ++ [b])).length = L.length / 8 + 1 := by rw [pack_length]; simp; omega
  apply List.ext_getElem?
  intro j
  rcases Nat.lt_or_ge j (L.length / 8 + 1) with hj | hj
  · have e : (pack (L ++ [b]))[j]? = some (byteAt (L ++ [b]) j) := by
      rw [List.getElem?_eq_getElem (by omega)]
      have := pack_getD (L ++ [b]) j
      rw [List.getD_eq_getElem?_getD, List.getElem?_eq_getElem (by omega)] at this
      simpa using this
    rw [e, List.getElem?_set]
    split
    · next h => subst h; rw [if_pos (by rw [oneMore_length]; omega)]
    · next h =>
      rw [byteAt_snoc, if_neg (by omega)]
      have hjl : j < (oneMore L).length := by rw [oneMore_length]; omega
      have : (oneMore L).getD j 0 = byteAt L j := by
        unfold oneMore; split
        · next h8 =>
          rw [getD_snoc_lt _ _ _ (by rw [pack_length]; omega)]; exact pack_getD L j
        · exact pack_getD L j
      rw [List.getD_eq_getElem?_getD, List.getElem?_eq_getElem hjl] at this
      rw [List.getElem?_eq_getElem hjl]
      simpa using this
  · rw [List.getElem?_eq_none (by rw [List.length_set, oneMore_length]; omega), List.getElem?_eq_none (by omega)]
theorem oneMore_lt {L : List Nat} (h : ∀ j, L.getD j 0 < 2) (j : Nat) : (oneMore L).getD j 0 < 256 := by
  unfold oneMore; split
  · rw [getD_snoc]; split
    · rw [pack_getD]; have := byteAt_lt h j; omega
    · rw [pack_getD]; have := byteAt_lt h j; omega
  · rw [pack_getD]; exact byteAt_lt h j
theorem one_or (x b s : Nat) (hx : x < 256) (hb : b < 2) (hs : s ≤ 7) : bits .or .u8 (x : Int) (IntKind.u64.wrap ((b : Int) * 2 ^ s) % 256) = ((x ||| b * 2 ^ s : Nat) : Int) := by
  have hp : 2 ^ s ≤ 2 ^ 7 := Nat.pow_le_pow_right (by omega) hs
  have hlt : b * 2 ^ s < 256 := by rcases (show b = 0 ∨ b = 1 by omega) with rfl | rfl <;> omega
  rw [show (b : Int) * 2 ^ s = ((b * 2 ^ s : Nat) : Int) from by rw [pow_cast, ← Int.natCast_mul]]
  generalize b * 2 ^ s = y at hlt ⊢
  rw [IntKind.wrap_u64, show (y : Int) % 18446744073709551616 % 256 = (y : Int) from by omega, u8_or_nat x y hx hlt]
theorem and_one_u64' (v i : Nat) (hv : v < 18446744073709551616) : bits .and .u64 ((v : Int) / 2 ^ i) 1 = ((v / 2 ^ i % 2 : Nat) : Int) := by
  have h1 : v / 2 ^ i < 18446744073709551616 := Nat.lt_of_le_of_lt (Nat.div_le_self _ _) hv
  rw [div_cast, show (1 : Int) = ((1 : Nat) : Int) from rfl, u64_and_nat _ _ h1 (by omega), Nat.and_one_is_mod]
theorem ret_int {k : IntKind} {a b : Int} (h : a = b) : Ending.returned (.int k a) = .returned (.int k b) := by rw [h]
/-- What Put answers, and the bits behind it. -/
def putE (len : Nat) (n : Int) : Int := if 0 ≤ n ∧ n ≤ 64 then (if n ≤ 8388608 - (len : Int) then 0 else 3) else 2
def putL (L : List Nat) (v : Nat) (n : Int) : List Nat := if 0 ≤ n ∧ n ≤ 64 ∧ n ≤ 8388608 - (L.length : Int) then L ++ bitsTo v n.toNat n.toNat else L
theorem bitsTo_bit (v n k : Nat) : ∀ j, (bitsTo v n k).getD j 0 < 2 := by
  intro j
  unfold bitsTo
  rw [List.getD_eq_getElem?_getD, List.getElem?_map]
  rcases Nat.lt_or_ge j k with h | h
  · rw [List.getElem?_range h]; exact Nat.mod_lt _ (by omega)
  · rw [List.getElem?_eq_none (by simpa using h)]; simp
theorem bits_append {L M : List Nat} (h : ∀ j, L.getD j 0 < 2) (k : ∀ j, M.getD j 0 < 2) : ∀ j, (L ++ M).getD j 0 < 2 := by
  intro j
  rw [List.getD_eq_getElem?_getD]
  rcases Nat.lt_or_ge j L.length with h1 | h1
  · rw [List.getElem?_append_left h1, ← List.getD_eq_getElem?_getD]; exact h j
  · rw [List.getElem?_append_right h1, ← List.getD_eq_getElem?_getD]; exact k _
/-- The bytes of the first k bits, in m bytes. -/
def packTo (L : List Nat) (m k : Nat) : List Nat := (List.range m).map (byteAt (L.take k))
theorem packTo_length (L : List Nat) (m k : Nat) : (packTo L m k).length = m := by simp [packTo]
theorem packTo_zero (L : List Nat) (m : Nat) : packTo L m 0 = List.replicate m 0 := by
  unfold packTo
  apply List.ext_getElem?
  intro j
  rw [List.getElem?_map, List.getElem?_replicate]
  rcases Nat.lt_or_ge j m with h | h
  · rw [List.getElem?_range h, if_pos h]
    show some (byteAt (L.take 0) j) = _
    rw [byteAt_ge _ _ (by simp)]
  · rw [List.getElem?_eq_none (by simpa using h), if_neg (by omega)]; rfl
theorem packTo_all (L : List Nat) : packTo L ((L.length + 7) / 8) L.length = pack L := by
  unfold packTo pack; rw [List.take_length]
theorem packTo_getD (L : List Nat) (m k j : Nat) (h : j < m) : (packTo L m k).getD j 0 = byteAt (L.take k) j := by
  rw [List.getD_eq_getElem?_getD, packTo, List.getElem?_map, List.getElem?_range h]; rfl
theorem take_snocD (L : List Nat) (k : Nat) (h : k < L.length) : L.take (k + 1) = L.take k ++ [L.getD k 0] := by
  rw [List.take_succ_eq_append_getElem h, List.getD_eq_getElem?_getD, List.getElem?_eq_getElem h]; rfl
theorem byteAt_take_succ (L : List Nat) (k j : Nat) (h : k < L.length) : byteAt (L.take (k + 1)) j = byteAt (L.take k) j + if j = k / 8 then L.getD k 0 * 2 ^ (7 - k % 8) else 0 := by
  rw [take_snocD L k h, byteAt_snoc, List.length_take, Nat.min_eq_left (by omega)]
theorem packTo_skip (L : List Nat) (m k : Nat) (h : k < L.length) (hb : L.getD k 0 = 0) : packTo L m (k + 1) = packTo L m k := by
  unfold packTo
  apply List.map_congr_left
  intro j _
  rw [byteAt_take_succ L k j h, hb]; simp
theorem packTo_set (L : List Nat) (m k : Nat) (h : k < L.length) (hb : L.getD k 0 = 1) : (packTo L m k).set (k / 8) (byteAt (L.take k) (k / 8) + 2 ^ (7 - k % 8)) = packTo L m (k + 1) := by
  apply List.ext_getElem?
  intro j
  rw [List.getElem?_set, packTo_length]
  unfold packTo
  rcases Nat.lt_or_ge j m with hj | hj
  · rw [List.getElem?_map, List.getElem?_map, List.getElem?_range hj]
    simp only [Option.map_some]
    rw [byteAt_take_succ L k j h, hb]
    split
    · next e => rw [if_pos (by omega)]; subst e; simp
    · next e => rw [if_neg (by omega)]; simp
  · rw [List.getElem?_eq_none (by simpa using hj), List.getElem?_eq_none (by simpa using hj)]
    split
    · next e => rw [if_neg (by omega)]
    · rfl
theorem take_bit {L : List Nat} (h : ∀ j, L.getD j 0 < 2) (k : Nat) : ∀ j, (L.take k).getD j 0 < 2 := by
  intro j
  rw [List.getD_eq_getElem?_getD, List.getElem?_take]
  split
  · rw [← List.getD_eq_getElem?_getD]; exact h j
  · simp
theorem rby_step (x s : Nat) (h : x + 2 ^ s < 256) : ((x : Int) + (2 : Int) ^ s) % 256 = ((x + 2 ^ s : Nat) : Int) := by
  rw [pow_cast]
  generalize 2 ^ s = y at h ⊢
  omega
end Go.Proofs.Ytboecnakndpgfaa
