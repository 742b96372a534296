/-
  Texts of this proof, joined: Pack, BitsWr, BitsPut, BitsBy, BitsRw, BitsRy, BitsFit, PackB, Begins, Pt, Points, PtRow, MemK, BitsPiecesW, VarPl, VrPl.
-/
import Derived.Test.YtboecnakndpgfaaDoorJ01
import Derived.Laws.EntriesVeiled
import Derived.StillTailTactics
import Derived.Deep.DeepCutAuto
import Derived.BigRegion
import Derived.Laws.CopyOwn
import Derived.Test.YtboecnakndpgfaaDoorRows
import Derived.Deep.Slices
import Derived.Deep.Fields
import Derived.ChangeSame
import Derived.Below
import Derived.Laws.BitsAllLaws
import Derived.Laws.BitsLemmas
namespace Go.Proofs.YtboecnakndpgfaaDoor
/-- Byte j of bits. -/
def byteAt (L : List Nat) (j : Nat) : Nat :=
  128 * L.getD (8 * j) 0 + 64 * L.getD (8 * j + 1) 0 + 32 * L.getD (8 * j + 2) 0 + 16 * L.getD (8 * j + 3) 0 + 8 * L.getD (8 * j + 4) 0 + 4 * L.getD (8 * j + 5) 0 + 2 * L.getD (8 * j + 6) 0 + L.getD (8 * j + 7) 0
/-- Bits as bytes, with bits 0 up to a whole byte. -/
def pack (L : List Nat) : List Nat := (List.range ((L.length + 7) / 8)).map (byteAt L)
/-- The bits of a number: the first k of the lowest n ones, the highest of them first. -/
def bitsTo (v n k : Nat) : List Nat := (List.range k).map fun j => v / 2 ^ (n - 1 - j) % 2
theorem bitsTo_zero (v n : Nat) : bitsTo v n 0 = [] := rfl
theorem bitsTo_succ (v n k : Nat) : bitsTo v n (k + 1) = bitsTo v n k ++ [v / 2 ^ (n - 1 - k) % 2] := by
  unfold bitsTo; rw [List.range_succ, List.map_append]; rfl
theorem bitsTo_length (v n k : Nat) : (bitsTo v n k).length = k := by simp [bitsTo]
theorem bits_snoc {L : List Nat} (h : ∀ j, L.getD j 0 < 2) {b : Nat} (hb : b < 2) : ∀ j, (L ++ [b]).getD j 0 < 2 := by
  intro j
  rw [List.getD_eq_getElem?_getD]
  rcases Nat.lt_trichotomy j L.length with h1 | h1 | h1
  · rw [List.getElem?_append_left h1, ← List.getD_eq_getElem?_getD]; exact h j
  · subst h1; simpa using hb
  · rw [List.getElem?_eq_none (by simp; omega)]; simp
theorem getD_snoc_lt (L : List Nat) (b j : Nat) (h : j < L.length) : (L ++ [b]).getD j 0 = L.getD j 0 := by
  rw [List.getD_eq_getElem?_getD, List.getD_eq_getElem?_getD, List.getElem?_append_left h]
theorem getD_snoc_eq (L : List Nat) (b : Nat) : (L ++ [b]).getD L.length 0 = b := by
  rw [List.getD_eq_getElem?_getD]; simp
theorem getD_ge (L : List Nat) (j : Nat) (h : L.length ≤ j) : L.getD j 0 = 0 := by
  rw [List.getD_eq_getElem?_getD, List.getElem?_eq_none h]; rfl
theorem getD_snoc (L : List Nat) (b j : Nat) : (L ++ [b]).getD j 0 = L.getD j 0 + if j = L.length then b else 0 := by
  rcases Nat.lt_trichotomy j L.length with h1 | h1 | h1
  · rw [getD_snoc_lt L b j h1, if_neg (by omega)]; omega
  · subst h1; rw [getD_snoc_eq, getD_ge L _ (Nat.le_refl _)]; simp
  · rw [getD_ge L j (by omega), getD_ge (L ++ [b]) j (by simp; omega), if_neg (by omega)]
theorem pack_length (L : List Nat) : (pack L).length = (L.length + 7) / 8 := by simp [pack]
theorem byteAt_ge (L : List Nat) (j : Nat) (h : L.length ≤ 8 * j) : byteAt L j = 0 := by
  unfold byteAt
  rw [getD_ge L _ h, getD_ge L (8 * j + 1) (by omega), getD_ge L (8 * j + 2) (by omega), getD_ge L (8 * j + 3) (by omega), getD_ge L (8 * j + 4) (by omega), getD_ge L (8 * j + 5) (by omega), getD_ge L (8 * j + 6) (by omega), getD_ge L (8 * j + 7) (by omega)]
theorem pack_getD (L : List Nat) (j : Nat) : (pack L).getD j 0 = byteAt L j := by
  rw [List.getD_eq_getElem?_getD, pack, List.getElem?_map]
  rcases Nat.lt_or_ge j ((L.length + 7) / 8) with h | h
  · rw [List.getElem?_range h]; rfl
  · rw [List.getElem?_eq_none (by simpa using h), byteAt_ge L j (by omega)]; rfl
theorem byteAt_lt {L : List Nat} (h : ∀ j, L.getD j 0 < 2) (j : Nat) : byteAt L j < 256 := by
  unfold byteAt
  have := h (8 * j); have := h (8 * j + 1); have := h (8 * j + 2); have := h (8 * j + 3); have := h (8 * j + 4); have := h (8 * j + 5); have := h (8 * j + 6); have := h (8 * j + 7)
  omega
/-- A bit more: its byte is more by it. -/
theorem byteAt_snoc (L : List Nat) (b j : Nat) : byteAt (L ++ [b]) j = byteAt L j + if j = L.length / 8 then b * 2 ^ (7 - L.length % 8) else 0 := by
  unfold byteAt
  simp only [getD_snoc]
  rcases Nat.lt_or_ge (L.length / 8) j with h1 | h1
  · rw [if_neg (show ¬ 8 * j = L.length by omega), if_neg (show ¬ 8 * j + 1 = L.length by omega), if_neg (show ¬ 8 * j + 2 = L.length by omega), if_neg (show ¬ 8 * j + 3 = L.length by omega), if_neg (show ¬ 8 * j + 4 = L.length by omega), if_neg (show ¬ 8 * j + 5 = L.length by omega), if_neg (show ¬ 8 * j + 6 = L.length by omega), if_neg (show ¬ 8 * j + 7 = L.length by omega), if_neg (show ¬ j = L.length / 8 by omega)]
    omega
  · rcases Nat.lt_or_ge j (L.length / 8) with h2 | h2
    · rw [if_neg (show ¬ 8 * j = L.length by omega), if_neg (show ¬ 8 * j + 1 = L.length by omega), if_neg (show ¬ 8 * j + 2 = L.length by omega), if_neg (show ¬ 8 * j + 3 = L.length by omega), if_neg (show ¬ 8 * j + 4 = L.length by omega), if_neg (show ¬ 8 * j + 5 = L.length by omega), if_neg (show ¬ 8 * j + 6 = L.length by omega), if_neg (show ¬ 8 * j + 7 = L.length by omega), if_neg (show ¬ j = L.length / 8 by omega)]
      omega
    · obtain rfl : j = L.length / 8 := by omega
      rw [if_pos (show L.length / 8 = L.length / 8 from rfl)]
      have hr : L.length % 8 < 8 := Nat.mod_lt _ (by omega)
      have hd := Nat.div_add_mod L.length 8
      obtain ⟨q, hq⟩ : ∃ q, q = L.length / 8 := ⟨_, rfl⟩
      obtain ⟨r, hrr⟩ : ∃ r, r = L.length % 8 := ⟨_, rfl⟩
      rw [← hrr] at hr hd ⊢
      rw [← hq] at hd ⊢
      generalize L.length = n at *
      rcases (show r = 0 ∨ r = 1 ∨ r = 2 ∨ r = 3 ∨ r = 4 ∨ r = 5 ∨ r = 6 ∨ r = 7 by omega) with h | h | h | h | h | h | h | h
      all_goals
        subst h
        subst hd
        simp
        omega
/-- Its byte has bits 0 from there on. -/
theorem byteAt_mul (L : List Nat) : ∃ x, byteAt L (L.length / 8) = x * 2 ^ (8 - L.length % 8) := by
  have hr : L.length % 8 < 8 := Nat.mod_lt _ (by omega)
  have hd := Nat.div_add_mod L.length 8
  have hg : ∀ j, L.length ≤ j → L.getD j 0 = 0 := fun j hj => getD_ge L j hj
  obtain ⟨q, hq⟩ : ∃ q, q = L.length / 8 := ⟨_, rfl⟩
  obtain ⟨r, hrr⟩ : ∃ r, r = L.length % 8 := ⟨_, rfl⟩
  rw [← hrr] at hr hd ⊢
  rw [← hq] at hd ⊢
  have z0 : r = 0 → L.getD (8 * q) 0 = 0 := fun _ => hg _ (by omega)
  have z1 : r ≤ 1 → L.getD (8 * q + 1) 0 = 0 := fun _ => hg _ (by omega)
  have z2 : r ≤ 2 → L.getD (8 * q + 2) 0 = 0 := fun _ => hg _ (by omega)
  have z3 : r ≤ 3 → L.getD (8 * q + 3) 0 = 0 := fun _ => hg _ (by omega)
  have z4 : r ≤ 4 → L.getD (8 * q + 4) 0 = 0 := fun _ => hg _ (by omega)
  have z5 : r ≤ 5 → L.getD (8 * q + 5) 0 = 0 := fun _ => hg _ (by omega)
  have z6 : r ≤ 6 → L.getD (8 * q + 6) 0 = 0 := fun _ => hg _ (by omega)
  have z7 : r ≤ 7 → L.getD (8 * q + 7) 0 = 0 := fun _ => hg _ (by omega)
  unfold byteAt
  clear hg
  generalize L.getD (8 * q) 0 = b0 at *
  generalize L.getD (8 * q + 1) 0 = b1 at *
  generalize L.getD (8 * q + 2) 0 = b2 at *
  generalize L.getD (8 * q + 3) 0 = b3 at *
  generalize L.getD (8 * q + 4) 0 = b4 at *
  generalize L.getD (8 * q + 5) 0 = b5 at *
  generalize L.getD (8 * q + 6) 0 = b6 at *
  generalize L.getD (8 * q + 7) 0 = b7 at *
  rcases (show r = 0 ∨ r = 1 ∨ r = 2 ∨ r = 3 ∨ r = 4 ∨ r = 5 ∨ r = 6 ∨ r = 7 by omega) with h | h | h | h | h | h | h | h
  · exact ⟨0, by omega⟩
  · exact ⟨b0, by rw [h]; omega⟩
  · exact ⟨2 * b0 + b1, by rw [h]; omega⟩
  · exact ⟨4 * b0 + 2 * b1 + b2, by rw [h]; omega⟩
  · exact ⟨8 * b0 + 4 * b1 + 2 * b2 + b3, by rw [h]; omega⟩
  · exact ⟨16 * b0 + 8 * b1 + 4 * b2 + 2 * b3 + b4, by rw [h]; omega⟩
  · exact ⟨32 * b0 + 16 * b1 + 8 * b2 + 4 * b3 + 2 * b4 + b5, by rw [h]; omega⟩
  · exact ⟨64 * b0 + 32 * b1 + 16 * b2 + 8 * b3 + 4 * b4 + 2 * b5 + b6, by rw [h]; omega⟩
theorem byteAt_or (L : List Nat) (b : Nat) (hb : b < 2) : byteAt L (L.length / 8) ||| b * 2 ^ (7 - L.length % 8) = byteAt (L ++ [b]) (L.length / 8) := by
  rw [byteAt_snoc, if_pos rfl]
  obtain ⟨x, hx⟩ := byteAt_mul L
  rw [hx]
  have hr : L.length % 8 < 8 := Nat.mod_lt _ (by omega)
  generalize L.length % 8 = r at *
  have hlt : b * 2 ^ (7 - r) < 2 ^ (8 - r) := by
    rw [show 8 - r = (7 - r) + 1 by omega, Nat.pow_succ]
    have : 0 < 2 ^ (7 - r) := Nat.pow_pos (by omega)
    rcases (show b = 0 ∨ b = 1 by omega) with rfl | rfl <;> omega
  have h := Nat.shiftLeft_add_eq_or_of_lt hlt x
  rw [Nat.shiftLeft_eq] at h
  exact h.symm
/-- The bytes behind one bit more. -/
def oneMore (L : List Nat) : List Nat := if L.length % 8 = 0 then pack L ++ [0] else pack L
theorem oneMore_length (L : List Nat) : (oneMore L).length = L.length / 8 + 1 := by
  unfold oneMore; split
  · rw [List.length_append, pack_length]; simp; omega
  · rw [pack_length]; omega
theorem oneMore_getD (L : List Nat) : (oneMore L).getD (L.length / 8) 0 = byteAt L (L.length / 8) := by
  unfold oneMore; split
  · next h =>
    have hl : (pack L).length = L.length / 8 := by rw [pack_length]; omega
    rw [← hl, getD_snoc_eq, hl, byteAt_ge L _ (by omega)]
  · exact pack_getD L _
theorem pack_snoc (L : List Nat) (b : Nat) (hb : b < 2) : (oneMore L).set (L.length / 8) (byteAt L (L.length / 8) ||| b * 2 ^ (7 - L.length % 8)) = pack (L ++ [b]) := by
  rw [byteAt_or L b hb]
  have hlen : (pack (L ++ [b])).length = L.length / 8 + 1 := by rw [pack_length]; simp; omega
  apply List.ext_getElem?
  intro j
  rcases Nat.lt_or_ge j (L.length / 8 + 1) with hj | hj
  · have e : (pack (L ++ [b]))[j]? = some (byteAt (L ++ [b]) j) := by
      rw [List.getElem?_eq_getElem (by omega)]
      have := pack_getD (L ++ [b]) j
      rw [List.getD_eq_getElem?_getD, List.getElem?_eq_getElem (by omega)] at this
      simpa using this
    rw [e, List.getElem?_set]
    split
    · next h => subst h; rw [if_pos (by rw [oneMore_length]; omega)]
    · next h =>
      rw [byteAt_snoc, if_neg (by omega)]
      have hjl : j < (oneMore L).length := by rw [oneMore_length]; omega
      have : (oneMore L).getD j 0 = byteAt L j := by
        unfold oneMore; split
        · next h8 =>
          rw [getD_snoc_lt _ _ _ (by rw [pack_length]; omega)]; exact pack_getD L j
        · exact pack_getD L j
      rw [List.getD_eq_getElem?_getD, List.getElem?_eq_getElem hjl] at this
      rw [List.getElem?_eq_getElem hjl]
      simpa using this
  · rw [List.getElem?_eq_none (by rw [List.length_set, oneMore_length]; omega), List.getElem?_eq_none (by omega)]
theorem oneMore_lt {L : List Nat} (h : ∀ j, L.getD j 0 < 2) (j : Nat) : (oneMore L).getD j 0 < 256 := by
  unfold oneMore; split
  · rw [getD_snoc]; split
    · rw [pack_getD]; have := byteAt_lt h j; omega
    · rw [pack_getD]; have := byteAt_lt h j; omega
  · rw [pack_getD]; exact byteAt_lt h j
theorem one_or (x b s : Nat) (hx : x < 256) (hb : b < 2) (hs : s ≤ 7) : bits .or .u8 (x : Int) (IntKind.u64.wrap ((b : Int) * 2 ^ s) % 256) = ((x ||| b * 2 ^ s : Nat) : Int) := by
  have hp : 2 ^ s ≤ 2 ^ 7 := Nat.pow_le_pow_right (by omega) hs
  have hlt : b * 2 ^ s < 256 := by rcases (show b = 0 ∨ b = 1 by omega) with rfl | rfl <;> omega
  rw [show (b : Int) * 2 ^ s = ((b * 2 ^ s : Nat) : Int) from by rw [pow_cast, ← Int.natCast_mul]]
  generalize b * 2 ^ s = y at hlt ⊢
  rw [IntKind.wrap_u64, show (y : Int) % 18446744073709551616 % 256 = (y : Int) from by omega, u8_or_nat x y hx hlt]
theorem and_one_u64' (v i : Nat) (hv : v < 18446744073709551616) : bits .and .u64 ((v : Int) / 2 ^ i) 1 = ((v / 2 ^ i % 2 : Nat) : Int) := by
  have h1 : v / 2 ^ i < 18446744073709551616 := Nat.lt_of_le_of_lt (Nat.div_le_self _ _) hv
  rw [div_cast, show (1 : Int) = ((1 : Nat) : Int) from rfl, u64_and_nat _ _ h1 (by omega), Nat.and_one_is_mod]
theorem ret_int {k : IntKind} {a b : Int} (h : a = b) : Ending.returned (.int k a) = .returned (.int k b) := by rw [h]
/-- What Put answers, and the bits behind it. -/
def putE (len : Nat) (n : Int) : Int := if 0 ≤ n ∧ n ≤ 64 then (if n ≤ 8388608 - (len : Int) then 0 else 3) else 2
def putL (L : List Nat) (v : Nat) (n : Int) : List Nat := if 0 ≤ n ∧ n ≤ 64 ∧ n ≤ 8388608 - (L.length : Int) then L ++ bitsTo v n.toNat n.toNat else L
theorem bitsTo_bit (v n k : Nat) : ∀ j, (bitsTo v n k).getD j 0 < 2 := by
  intro j
  unfold bitsTo
  rw [List.getD_eq_getElem?_getD, List.getElem?_map]
  rcases Nat.lt_or_ge j k with h | h
  · rw [List.getElem?_range h]; exact Nat.mod_lt _ (by omega)
  · rw [List.getElem?_eq_none (by simpa using h)]; simp
theorem bits_append {L M : List Nat} (h : ∀ j, L.getD j 0 < 2) (k : ∀ j, M.getD j 0 < 2) : ∀ j, (L ++ M).getD j 0 < 2 := by
  intro j
  rw [List.getD_eq_getElem?_getD]
  rcases Nat.lt_or_ge j L.length with h1 | h1
  · rw [List.getElem?_append_left h1, ← List.getD_eq_getElem?_getD]; exact h j
  · rw [List.getElem?_append_right h1, ← List.getD_eq_getElem?_getD]; exact k _
/-- The bytes of the first k bits, in m bytes. -/
def packTo (L : List Nat) (m k : Nat) : List Nat := (List.range m).map (byteAt (L.take k))
theorem packTo_length (L : List Nat) (m k : Nat) : (packTo L m k).length = m := by simp [packTo]
theorem packTo_zero (L : List Nat) (m : Nat) : packTo L m 0 = List.replicate m 0 := by
  unfold packTo
  apply List.ext_getElem?
  intro j
  rw [List.getElem?_map, List.getElem?_replicate]
  rcases Nat.lt_or_ge j m with h | h
  · rw [List.getElem?_range h, if_pos h]
    show some (byteAt (L.take 0) j) = _
    rw [byteAt_ge _ _ (by simp)]
  · rw [List.getElem?_eq_none (by simpa using h), if_neg (by omega)]; rfl
theorem packTo_all (L : List Nat) : packTo L ((L.length + 7) / 8) L.length = pack L := by
  unfold packTo pack; rw [List.take_length]
theorem packTo_getD (L : List Nat) (m k j : Nat) (h : j < m) : (packTo L m k).getD j 0 = byteAt (L.take k) j := by
  rw [List.getD_eq_getElem?_getD, packTo, List.getElem?_map, List.getElem?_range h]; rfl
theorem take_snocD (L : List Nat) (k : Nat) (h : k < L.length) : L.take (k + 1) = L.take k ++ [L.getD k 0] := by
  rw [List.take_succ_eq_append_getElem h, List.getD_eq_getElem?_getD, List.getElem?_eq_getElem h]; rfl
theorem byteAt_take_succ (L : List Nat) (k j : Nat) (h : k < L.length) : byteAt (L.take (k + 1)) j = byteAt (L.take k) j + if j = k / 8 then L.getD k 0 * 2 ^ (7 - k % 8) else 0 := by
  rw [take_snocD L k h, byteAt_snoc, List.length_take, Nat.min_eq_left (by omega)]
theorem packTo_skip (L : List Nat) (m k : Nat) (h : k < L.length) (hb : L.getD k 0 = 0) : packTo L m (k + 1) = packTo L m k := by
  unfold packTo
  apply List.map_congr_left
  intro j _
  rw [byteAt_take_succ L k j h, hb]; simp
theorem packTo_set (L : List Nat) (m k : Nat) (h : k < L.length) (hb : L.getD k 0 = 1) : (packTo L m k).set (k / 8) (byteAt (L.take k) (k / 8) + 2 ^ (7 - k % 8)) = packTo L m (k + 1) := by
  apply List.ext_getElem?
  intro j
  rw [List.getElem?_set, packTo_length]
  unfold packTo
  rcases Nat.lt_or_ge j m with hj | hj
  · rw [List.getElem?_map, List.getElem?_map, List.getElem?_range hj]
    simp only [Option.map_some]
    rw [byteAt_take_succ L k j h, hb]
    split
    · next e => rw [if_pos (by omega)]; subst e; simp
    · next e => rw [if_neg (by omega)]; simp
  · rw [List.getElem?_eq_none (by simpa using hj), List.getElem?_eq_none (by simpa using hj)]
    split
    · next e => rw [if_neg (by omega)]
    · rfl
theorem take_bit {L : List Nat} (h : ∀ j, L.getD j 0 < 2) (k : Nat) : ∀ j, (L.take k).getD j 0 < 2 := by
  intro j
  rw [List.getD_eq_getElem?_getD, List.getElem?_take]
  split
  · rw [← List.getD_eq_getElem?_getD]; exact h j
  · simp
theorem rby_step (x s : Nat) (h : x + 2 ^ s < 256) : ((x : Int) + (2 : Int) ^ s) % 256 = ((x + 2 ^ s : Nat) : Int) := by
  rw [pow_cast]
  generalize 2 ^ s = y at h ⊢
  omega
end Go.Proofs.YtboecnakndpgfaaDoor
namespace Go.Proofs.YtboecnakndpgfaaDoor
open Go.RowKit
set_option maxRecDepth 100000
def byteV (b : Nat) : Value := .int .u8 (b : Int)
/-- The method value one of the writer at block a. -/
def oneOf (a : Nat) : Value := .func (.func 72) #[.pointer (some ⟨a, 0, none⟩)] #[]
/-- A bits.Writer at block a, its bytes in the block g: its bits. -/
structure Wr (w : World) (a : Nat) (g : Option Nat) (L : List Nat) : Prop where
  len : L.length ≤ 8388608
  bit : ∀ j, L.getD j 0 < 2
  blk : ∃ v, v.ownBlock = g ∧ Blk w a 136 #[oneOf a, v, .int .i64 L.length] ∧ w.ownsRow 0 5 1 v (pack L).length ((pack L).map byteV)
def NewWrPost (w : World) (e : Ending) (w' : World) : Prop :=
  e = .returned (.pointer (some ⟨w.heap.size, 0, none⟩)) ∧ Wr w' w.heap.size none [] ∧ Keeps (fun _ => False) w w'
set_option maxHeartbeats 400000 in
theorem newWriter_any (w : World) : Calls Tryd.prog 51 #[] w (NewWrPost w) := by
  go_enter Tryd.func51, Tryd.ntmps51
  go_wp2
  go_ret
  refine ⟨rfl, ⟨by simp, by simp, .slice none 0 0, rfl, ?_, ⟨by simp [pack], .inl ⟨rfl, by simp [pack]⟩⟩⟩, ((Keeps.refl _ _).alloc _)⟩
  exact Blk.fresh _ _ _

/-- Behind the first statement of one: there is room for the bit. -/
def Roomy (w : World) (a : Nat) (g : Option Nat) (L : List Nat) (wx : World) : Prop :=
  ∃ gb c, Blk wx a 136 #[oneOf a, .slice (some ⟨gb, 0, none⟩) (L.length / 8 + 1) c, .int .i64 L.length] ∧
    wx.ownsRow 0 5 1 (.slice (some ⟨gb, 0, none⟩) (L.length / 8 + 1) c) (L.length / 8 + 1) ((oneMore L).map byteV) ∧ Keeps (fun k => k = a ∨ some k = g) w wx ∧ (g = some gb ∨ w.heap.size ≤ gb)
theorem roomy_same {w : World} {a : Nat} {g : Option Nat} {L : List Nat} (h : Wr w a g L) (h8 : ¬ L.length % 8 = 0) : Roomy w a g L w := by
  obtain ⟨v, hv, hblk, hown⟩ := h.blk
  obtain ⟨A, c, rfl, hlec, hA⟩ := own_form hown
  have hl := pack_length L
  obtain ⟨gb, rfl, -, -⟩ := hA (by omega)
  have e : (pack L).length = L.length / 8 + 1 := by omega
  rw [e] at hblk hown hv
  refine ⟨gb, c, hblk, ?_, Keeps.refl _ _, .inl hv.symm⟩
  unfold oneMore
  rw [if_neg h8]
  exact hown
theorem own_setCell_other {w : World} {base : Nat} {e t : TypeId} {size n a i : Nat} {v u : Value} {xs : List Value} {cs : Array Value} (h : w.ownsRow base e size v n xs) (hg : Blk w a t cs) (hne : e ≠ t) : (w.setCell ⟨a, i, none⟩ u).ownsRow base e size v n xs := by
  refine own_keeps h (S := fun k => k = a) (Keeps.setCell (Keeps.refl (fun k => k = a) w) (p := ⟨a, i, none⟩) (fun _ => rfl) u) (fun g hgv e => own_ne h hg hne (by rw [hgv, e]))
theorem roomy_new {w w1 : World} {a : Nat} {g : Option Nat} {L : List Nat} {v v1 : Value} {o : Obj} (hv : v.ownBlock = g) (hblk : Blk w a 136 #[oneOf a, v, .int .i64 L.length]) (hown : w.ownsRow 0 5 1 v (pack L).length ((pack L).map byteV))
    (h8 : L.length % 8 = 0) (hg1 : (w.alloc o).grownBy w1 v.ownBlock) (hown1 : w1.ownsRow 0 5 1 v1 ((pack L).length + 1) ((pack L).map byteV ++ [.int .u8 0])) (hat1 : v1.ownBlock = v.ownBlock ∨ v1.ownBlock = some (w.heap.size + 1)) :
    Blk w1 a 136 #[oneOf a, v, .int .i64 L.length] ∧ Roomy w a g L (w1.setCell ⟨a, 1, none⟩ v1) := by
  have hk : Keeps (fun k => k = a ∨ some k = g) w w1 := ((Keeps.refl _ w).alloc o).grown hg1 (fun k hk _ => .inr (by rw [← hk, hv]))
  have hka : Keeps (fun k => some k = g) w w1 := ((Keeps.refl _ w).alloc o).grown hg1 (fun k hk _ => by rw [← hk, hv])
  have hb1 : Blk w1 a 136 #[oneOf a, v, .int .i64 L.length] := hblk.keeps hka (fun e => own_ne hown hblk (by decide) (by rw [hv, e]))
  refine ⟨hb1, ?_⟩
  have hl := pack_length L
  obtain ⟨A, c, rfl, hlec, hA⟩ := own_form hown1
  obtain ⟨gb, rfl, -, hgb⟩ := hA (by omega)
  have e : (pack L).length + 1 = L.length / 8 + 1 := by omega
  rw [e] at hown1 ⊢
  refine ⟨gb, c, ?_, ?_, hk.setCell (fun _ => .inl rfl) _, ?_⟩
  · have := hb1.set 1 (.slice (some ⟨gb, 0, none⟩) (L.length / 8 + 1) c)
    simpa using this
  · have : (oneMore L).map byteV = (pack L).map byteV ++ [.int .u8 0] := by
      unfold oneMore; rw [if_pos h8, List.map_append]; rfl
    rw [this]
    exact own_setCell_other hown1 hb1 (by decide)
  · rcases hat1 with h | h
    · left; rw [← hv, ← h]; rfl
    · right
      simp [Value.ownBlock] at h
      omega
def OnePost (w : World) (a : Nat) (g : Option Nat) (L : List Nat) (b : Nat) (e : Ending) (w' : World) : Prop :=
  e = .returned (.tuple #[]) ∧ ∃ g', Wr w' a g' (L ++ [b]) ∧ Keeps (fun k => k = a ∨ some k = g) w w' ∧ (g' = g ∨ ∃ k, g' = some k ∧ w.heap.size ≤ k)

theorem one_post {w wc : World} {a : Nat} {g : Option Nat} {L : List Nat} {b gb c : Nat} (h : Wr w a g L) (hb : b < 2) (hl : L.length < 8388608)
    (hbx : Blk wc a 136 #[oneOf a, .slice (some ⟨gb, 0, none⟩) (L.length / 8 + 1) c, .int .i64 L.length])
    (hox : wc.ownsRow 0 5 1 (.slice (some ⟨gb, 0, none⟩) (L.length / 8 + 1) c) (L.length / 8 + 1) ((oneMore L).map byteV))
    (hkx : Keeps (fun k => k = a ∨ some k = g) w wc) (hgx : g = some gb ∨ w.heap.size ≤ gb) :
    ∃ g', Wr ((wc.setCell ⟨gb, L.length / 8, none⟩ (byteV (byteAt L (L.length / 8) ||| b * 2 ^ (7 - L.length % 8)))).setCell ⟨a, 2, none⟩ (.int .i64 ((L.length : Int) + 1))).drew a g' (L ++ [b]) ∧
      Keeps (fun k => k = a ∨ some k = g) w ((wc.setCell ⟨gb, L.length / 8, none⟩ (byteV (byteAt L (L.length / 8) ||| b * 2 ^ (7 - L.length % 8)))).setCell ⟨a, 2, none⟩ (.int .i64 ((L.length : Int) + 1))).drew ∧ (g' = g ∨ ∃ k, g' = some k ∧ w.heap.size ≤ k) := by
  have hga : gb ≠ a := fun e => own_ne hox hbx (by decide) (by rw [← e]; rfl)
  obtain ⟨hs1, hs2⟩ := hox.stored (L.length / 8) (byteV (byteAt L (L.length / 8) ||| b * 2 ^ (7 - L.length % 8)))
  have hb1 : Blk (wc.setCell ⟨gb, L.length / 8, none⟩ (byteV (byteAt L (L.length / 8) ||| b * 2 ^ (7 - L.length % 8)))) a 136 #[oneOf a, .slice (some ⟨gb, 0, none⟩) (L.length / 8 + 1) c, .int .i64 L.length] := hbx.far (p := ⟨gb, L.length / 8, none⟩) (fun e => hga e.symm) _
  refine ⟨some gb, ⟨by simp; omega, bits_snoc h.bit hb, .slice (some ⟨gb, 0, none⟩) (L.length / 8 + 1) c, rfl, ?_, ?_⟩, ?_, ?_⟩
  · have := hb1.set 2 (.int .i64 ((L.length : Int) + 1))
    have e : (((L ++ [b]).length : Nat) : Int) = (L.length : Int) + 1 := by simp
    rw [e]
    exact this.drew
  · have e : (pack (L ++ [b])).length = L.length / 8 + 1 := by rw [pack_length]; simp; omega
    rw [e, ← pack_snoc L b hb, List.map_set]
    exact own_setCell_other (i := 2) hs1 hb1 (by decide)
  · refine ((hkx.setCell (p := ⟨gb, L.length / 8, none⟩) (fun hlt => ?_) _).setCell (fun _ => .inl rfl) _).drew
    rcases hgx with h | h
    · exact .inr h.symm
    · exact absurd hlt (by simpa using h)
  · rcases hgx with h | h
    · exact .inl h.symm
    · exact .inr ⟨gb, rfl, h⟩

set_option maxHeartbeats 800000 in
theorem one_any (w : World) (a : Nat) (g : Option Nat) (L : List Nat) (b : Nat) (h : Wr w a g L) (hb : b < 2) (hl : L.length < 8388608) :
    Calls Tryd.prog 72 #[.pointer (some ⟨a, 0, none⟩), .int .u64 b] w (OnePost w a g L b) := by
  obtain ⟨v, hv, hblk, hown⟩ := h.blk
  obtain ⟨n, hn⟩ : ∃ n, n = L.length := ⟨_, rfl⟩
  rw [← hn] at hblk hl
  have c1 := hblk.cell 1
  have c2 := hblk.cell 2
  have f1 := hblk.frozen 1
  simp at c1 c2
  have HN := Lib.hid hn
  have HH := Lib.hid h
  have HO := Lib.hid hown
  have HV := Lib.hid hv
  have HB := Lib.hid hblk
  clear hn hown hv hblk h
  go_enter Tryd.func72, Tryd.ntmps72
  go_upto_if 9 with (fail)
  go_cut [] (fun wx => Roomy w a g L wx)
  case first =>
    by_cases h8 : n % 8 = 0
    · have e8 : (((n : Int) % 8) == 0) = true := by simp; omega
      go_wp2_with (at_builtin; refine wpList_append_sl (f := fun _ => .int .u8 0) (D := fun k => k = w.heap.size) (base := 0) (n := (pack L).length) (xs := (pack L).map byteV) byteElem rfl (.tmp 14) (.tmp 15) rfl rfl rfl ?hown ?hsl ?h1 ?h63 ?hby ?hbase ?_)
      case hown => exact HO.out.alloc _
      case hsl => exact sl_one _ _ _
      case h1 => intro j _; rfl
      case h63 => have := pack_length L; have := HN.out; simp only [maxLen]; omega
      case hby => have := pack_length L; have := HN.out; omega
      case hbase => simp
      intro v1 w1 hown1 hg1 hat1
      obtain ⟨A1, k1, hv1, -, -⟩ := own_form hown1
      rw [hv1]
      rw [hv1] at hown1 hat1
      clear hv1
      obtain ⟨hb1, hr1⟩ := roomy_new (L := L) HV.out (by rw [← HN.out]; exact HB.out) HO.out (by rw [← HN.out]; exact h8) hg1 hown1 hat1
      have HR := Lib.hid hr1
      have c11 := hb1.cell 1
      have f11 := hb1.frozen 1
      simp at c11
      clear hown1 hg1 hat1 hb1 hr1
      go_wp2_with fail
      go_meet
      exact HR.out
    · have e8 : (((n : Int) % 8) == 0) = false := by simp; omega
      go_wp2_with fail
      go_meet
      exact roomy_same HH.out (by rw [← HN.out]; exact h8)
  case rest =>
    clear c1 c2 f1
    obtain ⟨gb, c, hbx, hox, hkx, hgx⟩ := hcut
    rw [← HN.out] at hbx hox
    obtain ⟨q, hq⟩ : ∃ q, q = n / 8 := ⟨_, rfl⟩
    obtain ⟨t, ht⟩ : ∃ t, t = n % 8 := ⟨_, rfl⟩
    obtain ⟨s, hs⟩ : ∃ s, s = 7 - t := ⟨_, rfl⟩
    obtain ⟨x, hx⟩ : ∃ x, x = (oneMore L).getD q 0 := ⟨_, rfl⟩
    rw [← hq] at hbx hox
    have hxb : x < 256 := hx ▸ oneMore_lt HH.out.bit q
    have hcb : wc.cell? ⟨gb, q, none⟩ = some (.int .u8 x) := by
      rw [hox.cellAt q (by omega), List.getElem?_map, List.getElem?_eq_getElem (by rw [oneMore_length, ← HN.out]; omega), hx, List.getD_eq_getElem?_getD, List.getElem?_eq_getElem (by rw [oneMore_length, ← HN.out]; omega)]
      rfl
    have hfb := hox.frozenAt q
    have c1 := hbx.cell 1
    have c2 := hbx.cell 2
    have f2 := hbx.frozen 2
    simp at c1 c2
    have hga : gb ≠ a := fun e => own_ne hox hbx (by decide) (by rw [← e]; rfl)
    have e1 : IntKind.i64.wrap ((n : Int) / 8) = (q : Int) := by rw [IntWalk.i64_in _ (by omega)]; omega
    have e2 : IntKind.i64.wrap ((n : Int) % 8) = (t : Int) := by rw [IntWalk.i64_in _ (by omega)]; omega
    have e3 : (n : Int) % 8 = (t : Int) := by omega
    have e5 : (n : Int).tmod 8 = (t : Int) := by rw [Int.tmod_eq_emod_of_nonneg (by omega)]; exact e3
    have e4 : IntKind.i64.wrap (7 - (t : Int)) = (s : Int) := by rw [IntWalk.i64_in _ (by omega)]; omega
    have hqi : (q : Int) < (q : Int) + 1 := by omega
    have hs7 : s ≤ 7 := by omega
    have HP := Lib.hid (And.intro hq (And.intro ht (And.intro hs hx)))
    have HX := Lib.hid (And.intro hbx (And.intro hox (And.intro hkx hgx)))
    clear hq ht hs hx hbx hox hkx hgx
    go_wp2
    go_still_tail 22, (by kernel_rfl)
    change wpList _ _ _ _ _ wc.drew
    clear e1 e2 e3 e4 e5
    go_wp2
    go_end0
    obtain ⟨hq, ht, hs, hx⟩ := HP.out
    obtain ⟨hbx, hox, hkx, hgx⟩ := HX.out
    obtain rfl := HN.out
    subst hq ht hs
    have hx' : x = byteAt L (L.length / 8) := hx.trans (oneMore_getD L)
    rw [one_or x b _ hxb hb hs7, hx']
    exact ⟨rfl, one_post HH.out hb hl hbx hox hkx hgx⟩
end Go.Proofs.YtboecnakndpgfaaDoor
namespace Go.Proofs.YtboecnakndpgfaaDoor
set_option maxRecDepth 100000
open Go.RowKit
theorem func_nil_wr (w : World) (a : Nat) : (binOp .eql 134 (.func (.func 72) #[.pointer (some ⟨a, 0, none⟩)] #[]) .nilFunc).run Tryd.prog w = .ok (.bool false) w := by kernel_rfl
set_option maxHeartbeats 400000 in
theorem none_wr (w : World) (a : Nat) (g : Option Nat) (L : List Nat) (h : Wr w a g L) :
    Calls Tryd.prog 73 #[.pointer (some ⟨a, 0, none⟩)] w fun e w' => e = .returned (.bool false) ∧ w = w' := by
  obtain ⟨v, hv, hblk, hown⟩ := h.blk
  have c0 := hblk.cell 0
  simp [oneOf] at c0
  clear hv hblk hown h
  have hfn := fun w => func_nil_wr w a
  go_enter Tryd.func73, Tryd.ntmps73
  go_wp2
  go_ret
  exact ⟨rfl, rfl⟩

set_option maxHeartbeats 400000 in
theorem at_any (w : World) (p : Nat) (i : Nat) (v : Nat) (hv : v < 18446744073709551616) (h : Blk w p 51 #[.int .u64 v]) (hi : i < 64) :
    Calls Tryd.prog 74 #[.int .i64 i, .pointer (some ⟨p, 0, none⟩)] w fun e w' => e = .returned (.int .u64 (v / 2 ^ i % 2 : Nat)) ∧ w' = w := by
  have c0 := h.cell 0
  simp at c0
  clear h
  go_enter Tryd.func74, Tryd.ntmps74
  go_wp2
  go_ret
  exact ⟨ret_int (and_one_u64' v i hv), rfl⟩

theorem Wr.keeps {S : Nat → Prop} {w w' : World} {a : Nat} {g : Option Nat} {L : List Nat} (h : Wr w a g L) (hk : Keeps S w w') (ha : ¬ S a) (hg : ∀ k, g = some k → ¬ S k) : Wr w' a g L := by
  obtain ⟨h1, h2, v, hv, hb, ho⟩ := h
  exact ⟨h1, h2, v, hv, hb.keeps hk ha, own_keeps ho hk (fun k hk => hg k (by rw [← hv, hk]))⟩
theorem Wr.drewN {w : World} {a : Nat} {g : Option Nat} {L : List Nat} (h : Wr w a g L) (n : Nat) : Wr (w.drewN n) a g L := by
  obtain ⟨h1, h2, v, hv, hb, ho⟩ := h
  exact ⟨h1, h2, v, hv, hb, ho⟩
theorem Wr.ne {w : World} {a p : Nat} {g : Option Nat} {L : List Nat} {t : TypeId} {cs : Array Value} (h : Wr w a g L) (hp : Blk w p t cs) (h1 : 136 ≠ t) (h2 : 5 ≠ t) : p ≠ a ∧ some p ≠ g := by
  obtain ⟨_, _, v, hv, hb, ho⟩ := h
  exact ⟨fun e => hb.ne hp h1 e.symm, fun e => own_ne ho hp h2 (by rw [hv, e])⟩
theorem Wr.lt {w : World} {a : Nat} {g : Option Nat} {L : List Nat} (h : Wr w a g L) : a < w.heap.size := by
  obtain ⟨_, _, v, hv, hb, ho⟩ := h
  exact hb.lt
theorem Wr.glt {w : World} {a k : Nat} {L : List Nat} (h : Wr w a (some k) L) : k < w.heap.size := by
  obtain ⟨_, _, v, hv, hb, ho⟩ := h
  exact (ho.lt k hv).2
/-- The writer's bytes lie where they lay, or in new memory. -/
def Moved (w : World) (g g' : Option Nat) : Prop := g' = g ∨ ∃ k, g' = some k ∧ w.heap.size ≤ k
theorem Moved.refl (w : World) (g : Option Nat) : Moved w g g := .inl rfl
theorem Moved.trans {w w1 : World} {g g1 g2 : Option Nat} (h : Moved w g g1) (hs : w.heap.size ≤ w1.heap.size) (k : Moved w1 g1 g2) : Moved w g g2 := by
  rcases k with rfl | ⟨x, rfl, hx⟩
  · exact h
  · exact .inr ⟨x, rfl, by omega⟩
def PutPost (w : World) (a : Nat) (g : Option Nat) (L' : List Nat) (r : Int) (e : Ending) (w' : World) : Prop :=
  e = .returned (.int .i64 r) ∧ ∃ g', Wr w' a g' L' ∧ Keeps (fun k => k = a ∨ some k = g) w w' ∧ Moved w g g'

set_option maxHeartbeats 400000 in
theorem put_arg (w : World) (a : Nat) (g : Option Nat) (L : List Nat) (v n : Int) (h : Wr w a g L) (hn : n < 0 ∨ 64 < n) :
    Calls Tryd.prog 52 #[.pointer (some ⟨a, 0, none⟩), .int .u64 v, .int .i64 n] w (PutPost w a g L 2) := by
  have h1 : Wr (w.alloc (.cells #[.int .u64 v] 51)) a g L := h.keeps (S := fun _ => False) ((Keeps.refl _ _).alloc _) (fun h => h) (fun _ _ h => h)
  rcases hn with hn | hn
  · go_enter Tryd.func52, Tryd.ntmps52
    go_wp2_with fail
    refine (none_wr _ _ _ _ h1).mono ?_
    rintro e w' ⟨rfl, rfl⟩
    go_wp2_with fail
    go_ret
    exact ⟨rfl, g, h1, (Keeps.refl _ _).alloc _, Moved.refl _ _⟩
  · have hn' : ¬ n < 0 := by omega
    go_enter Tryd.func52, Tryd.ntmps52
    go_wp2_with fail
    refine (none_wr _ _ _ _ h1).mono ?_
    rintro e w' ⟨rfl, rfl⟩
    go_wp2_with fail
    go_ret
    exact ⟨rfl, g, h1, (Keeps.refl _ _).alloc _, Moved.refl _ _⟩

set_option maxHeartbeats 400000 in
theorem put_big (w : World) (a : Nat) (g : Option Nat) (L : List Nat) (v n : Int) (h : Wr w a g L) (h0 : 0 ≤ n) (h64 : n ≤ 64) (hn : 8388608 - (L.length : Int) < n) :
    Calls Tryd.prog 52 #[.pointer (some ⟨a, 0, none⟩), .int .u64 v, .int .i64 n] w (PutPost w a g L 3) := by
  have h1 : Wr (w.alloc (.cells #[.int .u64 v] 51)) a g L := h.keeps (S := fun _ => False) ((Keeps.refl _ _).alloc _) (fun h => h) (fun _ _ h => h)
  have hlen := h.len
  obtain ⟨_, _, vv, -, hb, -⟩ := h1
  have c2 := hb.cell 2
  simp only [List.getElem?_toArray, List.getElem?_cons_succ, List.getElem?_cons_zero] at c2
  clear hb
  have h1 : Wr (w.alloc (.cells #[.int .u64 v] 51)) a g L := h.keeps (S := fun _ => False) ((Keeps.refl _ _).alloc _) (fun h => h) (fun _ _ h => h)
  go_enter Tryd.func52, Tryd.ntmps52
  go_wp2_with fail
  refine (none_wr _ _ _ _ h1).mono ?_
  rintro e w' ⟨rfl, rfl⟩
  go_wp2_with fail
  go_ret
  exact ⟨rfl, g, h1, (Keeps.refl _ _).alloc _, Moved.refl _ _⟩

set_option maxHeartbeats 800000 in
theorem put_ok (w : World) (a : Nat) (g : Option Nat) (L : List Nat) (v n : Nat) (h : Wr w a g L) (hv : v < 18446744073709551616) (h64 : n ≤ 64) (hn : (n : Int) ≤ 8388608 - (L.length : Int)) :
    Calls Tryd.prog 52 #[.pointer (some ⟨a, 0, none⟩), .int .u64 v, .int .i64 n] w (PutPost w a g (L ++ bitsTo v n n) 0) := by
  have h1 : Wr (w.alloc (.cells #[.int .u64 v] 51)) a g L := h.keeps (S := fun _ => False) ((Keeps.refl _ _).alloc _) (fun h => h) (fun _ _ h => h)
  have hlen := h.len
  obtain ⟨_, _, vv, -, hb, -⟩ := h1
  have c2 := hb.cell 2
  simp only [List.getElem?_toArray, List.getElem?_cons_succ, List.getElem?_cons_zero] at c2
  clear hb
  have h1 : Wr (w.alloc (.cells #[.int .u64 v] 51)) a g L := h.keeps (S := fun _ => False) ((Keeps.refl _ _).alloc _) (fun h => h) (fun _ _ h => h)
  have d1 : decide ((n : Int) < 0) = false := by simp
  have d2 : decide ((64 : Int) < n) = false := by simp; omega
  have d3 : decide (8388608 - (L.length : Int) < n) = false := by simp; omega
  go_enter Tryd.func52, Tryd.ntmps52
  go_wp2_with fail
  refine (none_wr _ _ _ _ h1).mono ?_
  rintro e w' ⟨rfl, rfl⟩
  go_wp2_with fail
  clear d1 d2 d3 c2
  go_loopw [8] (fun i wr => ∃ (k : Nat) (g' : Option Nat), k ≤ n ∧ i = .int .i64 ((n : Int) - 1 - k) ∧ Wr wr a g' (L ++ bitsTo v n k) ∧ Blk wr w.heap.size 51 #[.int .u64 v] ∧ Keeps (fun x => x = a ∨ some x = g) w wr ∧ Moved w g g')
    (fun i _ => (intOf i + 1).toNat)
  case atStart => exact ⟨0, g, by omega, by simp, by simpa [bitsTo_zero] using h1, Blk.fresh _ _ _, (Keeps.refl _ _).alloc _, Moved.refl _ _⟩
  case round =>
    obtain ⟨k, g', hk, rfl, hw, hbox, hkp, hmv⟩ := hrel
    clear h1
    by_cases hlt : k < n
    · obtain ⟨m, hm⟩ : ∃ m : Nat, (n : Int) - 1 - k = (m : Int) := ⟨n - 1 - k, by omega⟩
      rw [hm]
      have hm64 : m < 64 := by omega
      have HM := Lib.hid hm
      clear hm
      have HW := Lib.hid hw
      obtain ⟨_, _, vv, -, hb, -⟩ := hw
      have c0 := hb.cell 0
      simp [oneOf] at c0
      clear hb
      go_wp2_with fail
      go_still_tail 7, (by kernel_rfl)
      still_call (at_any wr.drew w.heap.size m v hv hbox.drew (by have := HM.out; omega))
      refine wpStill_nil ?_
      change wpList _ _ _ _ _ wr.drew
      go_wp2_with fail
      refine (one_any wr.drew a g' _ _ (HW.out.drewN 1) (Nat.mod_lt _ (by omega)) (by have := HM.out; rw [List.length_append, bitsTo_length]; omega)).mono ?_
      rintro e w1 ⟨rfl, g2, hw1, hk1, hm1⟩
      have hbox1 : Blk w1 w.heap.size 51 #[.int .u64 v] := hbox.drew.keeps hk1 (fun e => by
        have := Wr.ne HW.out hbox (by decide) (by decide)
        rcases e with e | e
        · exact this.1 e
        · exact this.2 e)
      have hkw : Keeps (fun x => x = a ∨ some x = g) w w1 := (hkp.drew).trans hk1 (fun x hx e => by
        rcases e with e | e
        · exact .inl e
        · rcases hmv with h | ⟨y, h, hy⟩
          · exact .inr (e.trans h)
          · rw [h] at e; injection e with e; omega)
      have hmv1 : Moved w g g2 := hmv.trans (show w.heap.size ≤ wr.drew.heap.size from hkp.size) hm1
      rw [show L ++ bitsTo v n k ++ [v / 2 ^ m % 2] = L ++ bitsTo v n (k + 1) from by rw [bitsTo_succ, List.append_assoc, show n - 1 - k = m from by have := HM.out; omega]] at hw1
      clear hk1 hm1 hbox c0 hkp hmv
      go_wp2_with fail
      go_roundw
      case rel => exact ⟨k + 1, g2, by omega, by have := HM.out; go_num, hw1, hbox1, hkw, hmv1⟩
      case measure => simp [intOf]
    · obtain rfl : k = n := by omega
      have e1 : (k : Int) - 1 - k = -1 := by omega
      rw [e1]
      go_wp2_with fail
      go_ret
      exact ⟨rfl, g', hw, hkp, hmv⟩

theorem put_any (w : World) (a : Nat) (g : Option Nat) (L : List Nat) (v n : Int) (h : Wr w a g L) (h0 : 0 ≤ v) (hv : v < 18446744073709551616) :
    Calls Tryd.prog 52 #[.pointer (some ⟨a, 0, none⟩), .int .u64 v, .int .i64 n] w (PutPost w a g (putL L v.toNat n) (putE L.length n)) := by
  obtain ⟨v, rfl⟩ := Int.eq_ofNat_of_zero_le h0
  by_cases h1 : 0 ≤ n ∧ n ≤ 64
  · by_cases h2 : n ≤ 8388608 - (L.length : Int)
    · obtain ⟨m, rfl⟩ := Int.eq_ofNat_of_zero_le h1.1
      have e1 : putE L.length m = 0 := by unfold putE; rw [if_pos h1, if_pos h2]
      have e2 : putL L (Int.toNat v) m = L ++ bitsTo v m m := by unfold putL; rw [if_pos ⟨h1.1, h1.2, h2⟩]; simp
      rw [e1, e2]
      exact put_ok w a g L v m h (by omega) (by omega) h2
    · have e1 : putE L.length n = 3 := by unfold putE; rw [if_pos h1, if_neg h2]
      have e2 : putL L (Int.toNat v) n = L := by unfold putL; rw [if_neg (by omega)]
      rw [e1, e2]
      exact put_big w a g L v n h h1.1 h1.2 (by omega)
  · have e1 : putE L.length n = 2 := by unfold putE; rw [if_neg h1]
    have e2 : putL L (Int.toNat v) n = L := by unfold putL; rw [if_neg (by omega)]
    rw [e1, e2]
    exact put_arg w a g L v n h (by omega)

end Go.Proofs.YtboecnakndpgfaaDoor
namespace Go.Proofs.YtboecnakndpgfaaDoor
set_option maxRecDepth 100000
open Go.RowKit
theorem row_whole {w : World} {base : Nat} {e : TypeId} {g n : Nat} {xs : List Value} (h : w.ownsRow base e 1 (.slice (some ⟨g, 0, none⟩) n n) n xs) : w.heap[g]? = some (.cells xs.toArray e (0, 0)) := by
  rcases h.2 with ⟨h', _⟩ | ⟨g', cap, cur, h', _, hg, _, _, hs, ht⟩
  · simp at h'
  · simp only [Value.slice.injEq, Option.some.injEq, Addr.mk.injEq, and_true, true_and] at h'
    obtain ⟨rfl, rfl⟩ := h'
    rw [← ht, List.take_of_length_le (by simp; omega)]
    simpa using hg
theorem splice_all {α : Type} (l cs : List α) (h : l.length = cs.length) : splice l 0 cs = cs := by
  unfold splice
  rw [List.drop_of_length_le (by omega)]
  simp

def BytesPost (w : World) (bs : List Nat) (e : Ending) (w' : World) : Prop :=
  ∃ A c, e = .returned (.slice A bs.length c) ∧ w'.ownsRow w.heap.size 5 1 (.slice A bs.length c) bs.length (bs.map byteV) ∧ Keeps (fun _ => False) w w'

set_option maxHeartbeats 800000 in
theorem bytes_wr (w : World) (a : Nat) (g : Option Nat) (L : List Nat) (h : Wr w a g L) :
    Calls Tryd.prog 56 #[.pointer (some ⟨a, 0, none⟩)] w (BytesPost w (pack L)) := by
  have HH := Lib.hid h
  have hlen := h.len
  have hpl := pack_length L
  obtain ⟨n, hn⟩ : ∃ n, n = (pack L).length := ⟨_, rfl⟩
  have hn20 : n ≤ 1048577 := by omega
  obtain ⟨_, _, v, hv, hb, ho⟩ := h
  rw [← hn] at ho
  obtain ⟨A, c, rfl, hnc, hA⟩ := own_form ho
  have c1 := hb.cell 1
  simp only [List.getElem?_toArray, List.getElem?_cons_succ, List.getElem?_cons_zero] at c1
  have HB := Lib.hid hb
  have HO := Lib.hid ho
  have HN := Lib.hid hn
  have HA := Lib.hid hA
  clear hb ho hn hpl hv hA
  obtain ⟨ht, -, i, hi, hz, hs1, hby⟩ := byteElem
  have HI := Lib.hid (And.intro hs1 hby)
  go_enter Tryd.func56, Tryd.ntmps56
  go_wp2_with fail
  refine (none_wr _ _ _ _ HH.out).mono ?_
  rintro e w' ⟨rfl, rfl⟩
  go_wp2_with (at_make; refine wpList_make_full _ rfl (.tmp 10) (.tmp 10) 22 rfl w.heap.size 5 i (.int .u8 0) 1 ht hi hz HI.out.1 .i64 .i64 n n n rfl rfl rfl rfl ?hb1 ?hb2 ?hb3 ?_)
  case hb1 => rw [HI.out.2]; omega
  case hb2 => unfold maxLen; omega
  case hb3 => exact Nat.le_refl _
  intro w1 ho1 hg1
  have hk1 : Keeps (fun _ => False) w w1 := (Keeps.refl _ w).grown hg1 (fun _ h => by cases h)
  have hb1 := HB.out.keeps hk1 (fun h => h)
  have ho2 := own_keeps HO.out hk1 (fun _ _ h => h)
  have c11 := hb1.cell 1
  simp only [List.getElem?_toArray, List.getElem?_cons_succ, List.getElem?_cons_zero] at c11
  have hw1 := row_whole ho1
  obtain ⟨cs, hcs⟩ : ∃ cs, cs = (pack L).map byteV := ⟨_, rfl⟩
  have hcl : cs.length = n := by rw [hcs, List.length_map]; exact HN.out.symm
  obtain ⟨zs, hzs⟩ : ∃ zs, zs = (madeCells #[Value.int .u8 0] n).toList := ⟨_, rfl⟩
  have hzl : zs.length = n := by have := ho1.1; rw [hzs]; omega
  rw [← hzs] at hw1
  have HW := Lib.hid (And.intro hw1 (And.intro hcs (And.intro hcl hzl)))
  have H1 := Lib.hid (And.intro ho2 hk1)
  have c1c := c1
  clear hw1 hcs hcl hzl hzs ho1 hg1 hb1 ho2 hk1 c1
  go_wp2_with (with_reducible refine wpList_copy_splice rfl (.tmp 12) (.tmp 16) 22 22 rfl 5 ht ?hsz _ _ _ _ _ _ rfl rfl w.heap.size 0 zs 5 HW.out.1 cs ?hn ?hpos ?hfit ?hone w.heap.size w ?hbel ?hBg ?_)
  case hsz => kernel_rfl
  case hn => rw [HW.out.2.2.1]; exact (Nat.min_self n).symm
  case hpos =>
    intro hp
    obtain ⟨gg, hgg, -, -⟩ := HA.out (by rw [HW.out.2.2.1] at hp; exact hp)
    refine ⟨⟨gg, 0, none⟩, hgg, fun j u hu => ?_⟩
    have hh := H1.out.1.cells (g := gg) (by rw [hgg]; rfl) j u
    rw [← HW.out.2.1] at hh
    exact hh hu
  case hfit => have := HW.out.2.2; omega
  case hone =>
    intro u hu
    rw [HW.out.2.1, List.mem_map] at hu
    obtain ⟨x, -, rfl⟩ := hu
    rfl
  case hbel => exact H1.out.2.to_below
  case hBg => exact Nat.le_refl _
  intro w2 hw2 hbel2
  go_wp2_with fail
  go_ret
  obtain ⟨hw1, hcs, hcl, hzl⟩ := HW.out
  have hw2' := hw2.out
  rw [splice_all zs cs (by omega)] at hw2'
  refine ⟨some ⟨w.heap.size, 0, none⟩, n, by rw [HN.out]; rfl, ⟨by simp, .inr ⟨w.heap.size, n, cs.toArray, by rw [← HN.out], Nat.le_refl _, hw2', ?_, ?_, ?_, ?_⟩⟩, Keeps.of_below hbel2⟩
  · rw [← HN.out]; exact Nat.le_refl _
  · unfold maxLen; omega
  · simp; omega
  · show List.take ((pack L).length * 1) cs = (pack L).map byteV
    have := HN.out
    rw [← hcs, List.take_of_length_le (by omega)]
end Go.Proofs.YtboecnakndpgfaaDoor
namespace Go.Proofs.YtboecnakndpgfaaDoor
set_option maxRecDepth 100000
open Go.RowKit
def intV (b : Nat) : Value := .int .i64 (b : Int)
theorem intElem : Elem1 Tryd.prog 45 3 (.int .i64 0) 8 := Elem1.mk' Tryd.underlying45 rfl (by kernel_rfl)
theorem wrap_bit (v m : Nat) (hv : v < 18446744073709551616) : wrap64 (bits .and .u64 ((v : Int) / 2 ^ m) 1) = ((v / 2 ^ m % 2 : Nat) : Int) := by
  rw [and_one_u64' v m hv]
  have : v / 2 ^ m % 2 < 2 := Nat.mod_lt _ (by omega)
  exact IntWalk.wrap64_in _ ⟨by omega, by omega⟩
end Go.Proofs.YtboecnakndpgfaaDoor
namespace Go.Proofs.YtboecnakndpgfaaDoor
set_option maxRecDepth 100000
open Go.RowKit
theorem made_bytes (n : Nat) : (madeCells #[Value.int .u8 0] n).toList = (List.replicate n 0).map byteV := by
  rw [toList_madeCells_one, List.map_replicate]; rfl
end Go.Proofs.YtboecnakndpgfaaDoor
namespace Go.Proofs.YtboecnakndpgfaaDoor
set_option maxRecDepth 100000
open Go.RowKit
set_option linter.unusedSimpArgs false
set_option linter.unusedVariables false
theorem put_fit (w : World) (a : Nat) (g : Option Nat) (L : List Nat) (v n : Int) (h : Wr w a g L) (h0 : 0 ≤ v) (hv : v < 18446744073709551616) (n0 : 0 ≤ n) (n64 : n ≤ 64) (hl : (L.length : Int) + 64 ≤ 8388608) :
    Calls Tryd.prog 52 #[.pointer (some ⟨a, 0, none⟩), .int .u64 v, .int .i64 n] w (PutPost w a g (L ++ bitsTo v.toNat n.toNat n.toNat) 0) := by
  obtain ⟨v, rfl⟩ := Int.eq_ofNat_of_zero_le h0
  obtain ⟨n, rfl⟩ := Int.eq_ofNat_of_zero_le n0
  exact put_ok w a g L v n h (by omega) (by omega) (by omega)
theorem keeps_new {w0 w w' : World} {x : Nat} {g : Option Nat} (h : Keeps (fun _ => False) w0 w) (hk : Keeps (fun k => k = x ∨ some k = g) w w') (hx : w0.heap.size ≤ x) (hg : ∀ q, g = some q → w0.heap.size ≤ q) : Keeps (fun _ => False) w0 w' :=
  h.trans hk (fun k hk' e => by
    rcases e with e | e
    · omega
    · have := hg k e.symm; omega)
theorem moved_new {w0 w : World} {g g' : Option Nat} (hm : Moved w g g') (hs : w0.heap.size ≤ w.heap.size) (hg : ∀ q, g = some q → w0.heap.size ≤ q) : ∀ q, g' = some q → w0.heap.size ≤ q := by
  intro q hq
  rcases hm with h | ⟨k, h, hk⟩
  · exact hg q (h ▸ hq)
  · rw [hq] at h; injection h with h; omega
theorem Rd.below {w w' : World} {r : Nat} {D : Nat → Prop} {bs : List Nat} {a en : Nat} (h : Rd w r D bs a en) (hb : Below w.heap.size w w') : Rd w' r D bs a en :=
  h.keeps (S := fun _ => False) (Keeps.of_below hb) (fun h => h) (fun _ _ h => h)
end Go.Proofs.YtboecnakndpgfaaDoor
namespace Go.Proofs.YtboecnakndpgfaaDoor
theorem bit_of_byte (b0 b1 b2 b3 b4 b5 b6 b7 r : Nat) (h0 : b0 < 2) (h1 : b1 < 2) (h2 : b2 < 2) (h3 : b3 < 2) (h4 : b4 < 2) (h5 : b5 < 2) (h6 : b6 < 2) (h7 : b7 < 2) (hr : r < 8) :
    (128 * b0 + 64 * b1 + 32 * b2 + 16 * b3 + 8 * b4 + 4 * b5 + 2 * b6 + b7) / 2 ^ (7 - r) % 2 = [b0, b1, b2, b3, b4, b5, b6, b7].getD r 0 := by
  rcases (show r = 0 ∨ r = 1 ∨ r = 2 ∨ r = 3 ∨ r = 4 ∨ r = 5 ∨ r = 6 ∨ r = 7 by omega) with h | h | h | h | h | h | h | h <;> subst h <;> simp <;> omega
theorem bitOf_pack {L : List Nat} (h : ∀ j, L.getD j 0 < 2) (i : Nat) : bitOf (pack L) i = L.getD i 0 := by
  unfold bitOf
  rw [pack_getD]
  unfold byteAt
  have hr : i % 8 < 8 := Nat.mod_lt _ (by omega)
  rw [bit_of_byte _ _ _ _ _ _ _ _ _ (h _) (h _) (h _) (h _) (h _) (h _) (h _) (h _) hr]
  have hd := Nat.div_add_mod i 8
  rcases (show i % 8 = 0 ∨ i % 8 = 1 ∨ i % 8 = 2 ∨ i % 8 = 3 ∨ i % 8 = 4 ∨ i % 8 = 5 ∨ i % 8 = 6 ∨ i % 8 = 7 by omega) with e | e | e | e | e | e | e | e <;> rw [e] at hd ⊢ <;> simp only [List.getD_cons_succ, List.getD_cons_zero] <;> congr 1
theorem gets_congr {bs : List Nat} {p u n : Nat} (h : ∀ j, j < n → bitOf bs (p + j) = u / 2 ^ (n - 1 - j) % 2) : ∀ k, k ≤ n → gets bs p k = u / 2 ^ (n - k) % 2 ^ k := by
  intro k
  induction k with
  | zero => intro _; simp [gets, Nat.mod_one]
  | succ k ih =>
    intro hk
    rw [gets, ih (by omega), h k (by omega)]
    rw [show n - 1 - k = n - (k + 1) by omega, show n - k = (n - (k + 1)) + 1 by omega, Nat.pow_succ 2 (n - (k + 1)), ← Nat.div_div_eq_div_mul]
    generalize u / 2 ^ (n - (k + 1)) = y
    rw [Nat.pow_succ, Nat.mul_comm (2 ^ k) 2, Nat.mod_mul]
    omega
theorem bitsTo_getD (v n k j : Nat) (h : j < k) : (bitsTo v n k).getD j 0 = v / 2 ^ (n - 1 - j) % 2 := by
  unfold bitsTo
  rw [List.getD_eq_getElem?_getD, List.getElem?_map, List.getElem?_range h]; rfl
theorem getD_append_right (L M : List Nat) (j : Nat) : (L ++ M).getD (L.length + j) 0 = M.getD j 0 := by
  rw [List.getD_eq_getElem?_getD, List.getD_eq_getElem?_getD, List.getElem?_append_right (by omega)]
  congr 2
  omega
theorem getD_append_left (L M : List Nat) (j : Nat) (h : j < L.length) : (L ++ M).getD j 0 = L.getD j 0 := by
  rw [List.getD_eq_getElem?_getD, List.getD_eq_getElem?_getD, List.getElem?_append_left h]
/-- What was put is got. -/
theorem gets_pack {L M : List Nat} {v n : Nat} (hL : ∀ j, L.getD j 0 < 2) (hM : ∀ j, M.getD j 0 < 2) : gets (pack (L ++ bitsTo v n n ++ M)) L.length n = v % 2 ^ n := by
  have hb : ∀ j, (L ++ bitsTo v n n ++ M).getD j 0 < 2 := bits_append (bits_append hL (bitsTo_bit v n n)) hM
  have := gets_congr (bs := pack (L ++ bitsTo v n n ++ M)) (p := L.length) (u := v) (n := n) (fun j hj => by
    rw [bitOf_pack hb, getD_append_left _ _ _ (by rw [List.length_append, bitsTo_length]; omega), getD_append_right, bitsTo_getD _ _ _ _ hj]) n (Nat.le_refl _)
  rw [this]
  simp
/-- A number in two pieces is the same bits as in one. -/
theorem bitsTo_split (v a b : Nat) : bitsTo v (a + b) (a + b) = bitsTo (v / 2 ^ b) a a ++ bitsTo v b b := by
  apply List.ext_getElem?
  intro j
  rcases Nat.lt_or_ge j (a + b) with hj | hj
  · rcases Nat.lt_or_ge j a with ha | ha
    · rw [List.getElem?_append_left (by rw [bitsTo_length]; exact ha)]
      unfold bitsTo
      rw [List.getElem?_map, List.getElem?_map, List.getElem?_range hj, List.getElem?_range ha]
      simp only [Option.map_some]
      rw [Nat.div_div_eq_div_mul, ← Nat.pow_add, show b + (a - 1 - j) = a + b - 1 - j by omega]
    · rw [List.getElem?_append_right (by rw [bitsTo_length]; exact ha), bitsTo_length]
      unfold bitsTo
      rw [List.getElem?_map, List.getElem?_map, List.getElem?_range hj, List.getElem?_range (show j - a < b by omega)]
      simp only [Option.map_some]
      rw [show b - 1 - (j - a) = a + b - 1 - j by omega]
  · rw [List.getElem?_eq_none (by rw [bitsTo_length]; exact hj), List.getElem?_eq_none (by rw [List.length_append, bitsTo_length, bitsTo_length]; exact hj)]
theorem and_mask_u64 (x a : Nat) (hx : x < 18446744073709551616) (ha : a < 64) : bits .and .u64 (x : Int) (((2 ^ a - 1 : Nat) : Int)) = ((x % 2 ^ a : Nat) : Int) := by
  have hp : 2 ^ a ≤ 2 ^ 63 := Nat.pow_le_pow_right (by omega) (by omega)
  rw [u64_and_nat _ _ hx (by omega), Nat.and_two_pow_sub_one_eq_mod]
theorem ofInt_mod (x : Int) : (BitVec.ofInt 64 x).toNat = (x % 18446744073709551616).toNat := by
  rw [BitVec.toNat_ofInt]; rfl
theorem and_31 (x : Int) : bits .and .i64 x 31 = (((x % 32).toNat : Nat) : Int) := by
  show IntKind.i64.wrap (((BitVec.ofInt 64 x) &&& (BitVec.ofInt 64 31)).toNat : Int) = _
  rw [BitVec.toNat_and, ofInt_mod, ofInt_mod]
  rw [show ((31 : Int) % 18446744073709551616).toNat = 2 ^ 5 - 1 by decide, Nat.and_two_pow_sub_one_eq_mod, IntKind.wrap_i64]
  omega
theorem and_127 (x : Int) : bits .and .i64 x 127 = (((x % 128).toNat : Nat) : Int) := by
  show IntKind.i64.wrap (((BitVec.ofInt 64 x) &&& (BitVec.ofInt 64 127)).toNat : Int) = _
  rw [BitVec.toNat_and, ofInt_mod, ofInt_mod]
  rw [show ((127 : Int) % 18446744073709551616).toNat = 2 ^ 7 - 1 by decide, Nat.and_two_pow_sub_one_eq_mod, IntKind.wrap_i64]
  omega
theorem and_511 (x : Int) : bits .and .i64 x 511 = (((x % 512).toNat : Nat) : Int) := by
  show IntKind.i64.wrap (((BitVec.ofInt 64 x) &&& (BitVec.ofInt 64 511)).toNat : Int) = _
  rw [BitVec.toNat_and, ofInt_mod, ofInt_mod]
  rw [show ((511 : Int) % 18446744073709551616).toNat = 2 ^ 9 - 1 by decide, Nat.and_two_pow_sub_one_eq_mod, IntKind.wrap_i64]
  omega
end Go.Proofs.YtboecnakndpgfaaDoor
namespace Go.Proofs.YtboecnakndpgfaaDoor
theorem gets_bit (bs : List Nat) (p n j : Nat) (h : j < n) : gets bs p n / 2 ^ (n - 1 - j) % 2 = bitOf bs (p + j) := by
  induction n with
  | zero => omega
  | succ n ih =>
    have hb := bitOf_lt bs (p + n)
    rcases Nat.lt_or_ge j n with hj | hj
    · rw [show n + 1 - 1 - j = (n - 1 - j) + 1 by omega, Nat.pow_succ, Nat.mul_comm, ← Nat.div_div_eq_div_mul, gets]
      rw [show (2 * gets bs p n + bitOf bs (p + n)) / 2 = gets bs p n by omega]
      exact ih hj
    · obtain rfl : j = n := by omega
      rw [show j + 1 - 1 - j = 0 by omega, gets]
      simp only [Nat.pow_zero, Nat.div_one]
      omega
theorem byte_ext {x y : Nat} (hx : x < 256) (hy : y < 256) (h : ∀ r, r < 8 → x / 2 ^ (7 - r) % 2 = y / 2 ^ (7 - r) % 2) : x = y := by
  have h0 := h 0 (by omega)
  have h1 := h 1 (by omega)
  have h2 := h 2 (by omega)
  have h3 := h 3 (by omega)
  have h4 := h 4 (by omega)
  have h5 := h 5 (by omega)
  have h6 := h 6 (by omega)
  have h7 := h 7 (by omega)
  simp at h0 h1 h2 h3 h4 h5 h6 h7
  omega
theorem bytes_ext {a b : List Nat} (hl : a.length = b.length) (ha : ∀ j, a.getD j 0 < 256) (hb : ∀ j, b.getD j 0 < 256) (h : ∀ i, i < 8 * a.length → bitOf a i = bitOf b i) : a = b := by
  apply List.ext_getElem hl
  intro i h1 h2
  have e : a.getD i 0 = b.getD i 0 := by
    refine byte_ext (ha i) (hb i) fun r hr => ?_
    have := h (8 * i + r) (by omega)
    unfold bitOf at this
    rw [show (8 * i + r) / 8 = i by omega, show (8 * i + r) % 8 = r by omega] at this
    exact this
  rw [List.getD_eq_getElem?_getD, List.getD_eq_getElem?_getD, List.getElem?_eq_getElem h1, List.getElem?_eq_getElem h2] at e
  exact e
/-- The bytes' first bits are L. -/
structure Begins (bs L : List Nat) : Prop where
  le : L.length ≤ 8 * bs.length
  eq : ∀ i, i < L.length → bitOf bs i = L.getD i 0
namespace Begins
variable {bs L M : List Nat} {n v : Nat}
theorem nil (bs : List Nat) : Begins bs [] := ⟨Nat.zero_le _, fun i h => absurd h (by simp)⟩
theorem put (h : Begins bs L) (hn : L.length + n ≤ 8 * bs.length) (hv : gets bs L.length n = v) : Begins bs (L ++ bitsTo v n n) := by
  refine ⟨by rw [List.length_append, bitsTo_length]; exact hn, fun i hi => ?_⟩
  rw [List.length_append, bitsTo_length] at hi
  rcases Nat.lt_or_ge i L.length with hl | hl
  · rw [getD_append_left _ _ _ hl]; exact h.eq i hl
  · obtain ⟨j, rfl⟩ : ∃ j, i = L.length + j := ⟨i - L.length, by omega⟩
    rw [getD_append_right, bitsTo_getD _ _ _ _ (by omega), ← hv, gets_bit _ _ _ _ (by omega)]
theorem pre (h : Begins bs (L ++ M)) : Begins bs L := by
  refine ⟨by have := h.le; rw [List.length_append] at this; omega, fun i hi => ?_⟩
  rw [h.eq i (by rw [List.length_append]; omega), getD_append_left _ _ _ hi]
theorem get (h : Begins bs (L ++ bitsTo v n n)) (hv : v < 2 ^ n) : gets bs L.length n = v := by
  have := gets_congr (bs := bs) (p := L.length) (u := v) (n := n) (fun j hj => by
    rw [h.eq _ (by rw [List.length_append, bitsTo_length]; omega), getD_append_right, bitsTo_getD _ _ _ _ hj]) n (Nat.le_refl _)
  rw [this]
  simp [Nat.mod_eq_of_lt hv]
theorem room (h : Begins bs (L ++ M)) : L.length + M.length ≤ 8 * bs.length := by have := h.le; rw [List.length_append] at this; exact this
theorem bit (h : Begins bs (L ++ M)) (j : Nat) (hj : j < M.length) : bitOf bs (L.length + j) = M.getD j 0 := by
  rw [h.eq _ (by rw [List.length_append]; omega), getD_append_right]
theorem snoc (h : Begins bs L) (hn : L.length < 8 * bs.length) {b : Nat} (hb : bitOf bs L.length = b) : Begins bs (L ++ [b]) := by
  refine ⟨by rw [List.length_append]; simp; omega, fun i hi => ?_⟩
  rw [List.length_append] at hi
  simp at hi
  rcases Nat.lt_or_ge i L.length with hl | hl
  · rw [getD_append_left _ _ _ hl]; exact h.eq i hl
  · obtain rfl : i = L.length := by omega
    rw [hb, getD_snoc_eq]
theorem pack {L : List Nat} (h : ∀ j, L.getD j 0 < 2) : Begins (pack L) L :=
  ⟨by rw [pack_length]; omega, fun i _ => bitOf_pack h i⟩
theorem all (h : Begins bs L) (hb : ∀ j, bs.getD j 0 < 256) (hL : ∀ j, L.getD j 0 < 2) (hend : 8 * bs.length < L.length + 8) (h0 : gets bs L.length (8 * bs.length - L.length) = 0) : bs = Go.Proofs.YtboecnakndpgfaaDoor.pack L := by
  have hle := h.le
  refine bytes_ext (by rw [pack_length]; omega) hb (fun j => by rw [pack_getD]; exact byteAt_lt hL j) fun i hi => ?_
  rw [bitOf_pack hL]
  rcases Nat.lt_or_ge i L.length with hl | hl
  · exact h.eq i hl
  · obtain ⟨j, rfl⟩ : ∃ j, i = L.length + j := ⟨i - L.length, by omega⟩
    rw [← gets_bit bs L.length (8 * bs.length - L.length) j (by omega), h0, getD_ge L _ (by omega)]
    simp
end Begins
theorem gets_zero {bs : List Nat} {p : Nat} : ∀ n, (∀ j, j < n → bitOf bs (p + j) = 0) → gets bs p n = 0
  | 0, _ => rfl
  | n + 1, h => by rw [gets, gets_zero n (fun j hj => h j (by omega)), h n (by omega)]
theorem gets_pack_end {L : List Nat} (h : ∀ j, L.getD j 0 < 2) (n : Nat) : gets (pack L) L.length n = 0 :=
  gets_zero n fun j _ => by rw [bitOf_pack h, getD_ge L _ (by omega)]
end Go.Proofs.YtboecnakndpgfaaDoor
namespace Go.Proofs.YtboecnakndpgfaaDoor
open Go.RowKit
/-- A point. -/
structure Pt where
  t : Int
  v : Int
  s : Int
deriving DecidableEq
def I64 (x : Int) : Prop := -9223372036854775808 ≤ x ∧ x ≤ 9223372036854775807
structure PtOk (p : Pt) : Prop where
  t : I64 p.t
  v : I64 p.v
  s : I64 p.s
/-- A slice of n points that lie in a block of D: point j is f j. -/
def SlP (w : World) (D : Nat → Prop) (A : Option Addr) (n : Nat) (f : Nat → Pt) : Prop :=
  0 < n → ∃ b off, A = some ⟨b, off, none⟩ ∧ D b ∧ ∀ j, j < n → w.cell? ⟨b, off + j * 3, none⟩ = some (.int .i64 (f j).t) ∧ w.cell? ⟨b, off + j * 3 + 1, none⟩ = some (.int .i64 (f j).v) ∧ w.cell? ⟨b, off + j * 3 + 2, none⟩ = some (.int .i64 (f j).s)
namespace SlP
variable {w w' : World} {D E : Nat → Prop} {A : Option Addr} {n m : Nat} {f g : Nat → Pt}
theorem nil (w : World) (D : Nat → Prop) (A : Option Addr) (f : Nat → Pt) : SlP w D A 0 f := fun h => absurd h (by omega)
theorem keep (h : SlP w D A n f) (hk : ∀ k, D k → k < w.heap.size → w'.heap[k]? = w.heap[k]?) : SlP w' D A n f := fun hn => by
  obtain ⟨b, off, e, hd, hc⟩ := h hn
  have hlt : b < w.heap.size := World.block_lt_of_cell? w _ (hc 0 hn).1
  refine ⟨b, off, e, hd, fun j hj => ?_⟩
  obtain ⟨h1, h2, h3⟩ := hc j hj
  exact ⟨(World.cell?_of_block (w := w) (a := ⟨b, _, none⟩) (hk b hd hlt)).trans h1, (World.cell?_of_block (w := w) (a := ⟨b, _, none⟩) (hk b hd hlt)).trans h2, (World.cell?_of_block (w := w) (a := ⟨b, _, none⟩) (hk b hd hlt)).trans h3⟩
theorem below (h : SlP w D A n f) (hk : Below w.heap.size w w') : SlP w' D A n f := h.keep fun k _ hlt => hk.block k hlt
theorem keeps (h : SlP w D A n f) (hk : Keeps (fun _ => False) w w') : SlP w' D A n f := h.keep fun k _ hlt => hk.block k hlt (fun h => h)
theorem mono (h : SlP w D A n f) (hd : ∀ k, D k → E k) : SlP w E A n f := fun hn => by
  obtain ⟨b, off, e, hD, hc⟩ := h hn
  exact ⟨b, off, e, hd b hD, hc⟩
theorem take (h : SlP w D A n f) (hm : m ≤ n) : SlP w D A m f := fun hn => by
  obtain ⟨b, off, e, hD, hc⟩ := h (by omega)
  exact ⟨b, off, e, hD, fun j hj => hc j (by omega)⟩
theorem congr (h : SlP w D A n f) (hf : ∀ j, j < n → f j = g j) : SlP w D A n g := fun hn => by
  obtain ⟨b, off, e, hD, hc⟩ := h hn
  exact ⟨b, off, e, hD, fun j hj => by rw [← hf j hj]; exact hc j hj⟩
theorem drop {b off : Nat} (h : SlP w D (some ⟨b, off, none⟩) (m + n) f) : SlP w D (some ⟨b, off + m * 3, none⟩) n (fun j => f (m + j)) := fun hn => by
  obtain ⟨b', off', e, hD, hc⟩ := h (by omega)
  simp only [Option.some.injEq, Addr.mk.injEq] at e
  obtain ⟨rfl, rfl, -⟩ := e
  refine ⟨b, _, rfl, hD, fun j hj => ?_⟩
  have := hc (m + j) (by omega)
  rw [show off + (m + j) * 3 = off + m * 3 + j * 3 by omega] at this
  exact this
end SlP
end Go.Proofs.YtboecnakndpgfaaDoor
namespace Go.Proofs.YtboecnakndpgfaaDoor
open Go.RowKit Go.ChangeShapes Go.WideShapes Go.Deep
set_option maxRecDepth 100000
/-- A slice of len points. -/
structure IsPoints (w : World) (a : Option Addr) (len cap : Nat) (f : Nat → Pt) : Prop where
  le : len ≤ cap
  cap_le : cap ≤ maxLen
  ok : ∀ j, j < len → PtOk (f j)
  sl : SlP w (fun x => x < w.heap.size) a len f
theorem points_cells : Tryd.prog.cellsOf 34 = 3 := by kernel_rfl
theorem open_points {H : Type} {enc : TypeId × Value → H} {w : World} {fuel : Nat} {a : Option Addr} {len cap : Nat} {x : DataW H × List MemPlace}
    (h : DataW.trod enc Tryd.prog w 0 (fun _ => true) true fuel 23 (Value.cells (.slice a len cap)).toList = some x) : ∃ f, IsPoints w a len cap f := by
  rcases open_slice Tryd.underlying23 h with ⟨hcs, _⟩ | ⟨ad, l, c, m, n, D, Pl, hcs, -, hl, hm, hmm, -, hi⟩
  · simp [Value.cells] at hcs
    obtain ⟨rfl, rfl, rfl⟩ := hcs
    exact ⟨fun _ => ⟨0, 0, 0⟩, Nat.le_refl _, Nat.zero_le _, fun j hj => by omega, fun hj => by omega⟩
  · simp [Value.cells] at hcs
    obtain ⟨rfl, rfl, rfl⟩ := hcs
    have hmc : m = cap := by simpa using hmm
    have hone : ∀ i, i < cap → ∃ p : Pt, w.cell? ((ad.add (i * 3)).add 0) = some (.int .i64 p.t) ∧ w.cell? ((ad.add (i * 3)).add 1) = some (.int .i64 p.v) ∧ w.cell? ((ad.add (i * 3)).add 2) = some (.int .i64 p.s) ∧ PtOk p := by
      intro i hic
      obtain ⟨cs', hc, ht'⟩ := hi i (by omega)
      rw [points_cells] at hc
      obtain ⟨ys, n', hn', hy, hlen, hyl, hf⟩ := DataW.trod_struct Tryd.underlying34 ht'
      obtain ⟨_, hcl, hat⟩ := World.cells?_some hc
      match cs', hcl with
      | [c0, c1, c2], _ =>
        match ys, hyl with
        | [y0, y1, y2], _ =>
          have hC : Tryd.prog.cellsOf 3 = 1 := by kernel_rfl
          have g0 := hf 0 _ rfl
          have g1 := hf 1 _ rfl
          have g2 := hf 2 _ rfl
          simp [hC] at g0
          simp [hC] at g1
          simp [hC] at g2
          obtain ⟨t, e0, -, w0⟩ := DataW.trod_int Tryd.underlying3 g0
          obtain ⟨v, e1, -, w1⟩ := DataW.trod_int Tryd.underlying3 g1
          obtain ⟨s, e2, -, w2⟩ := DataW.trod_int Tryd.underlying3 g2
          simp at e0 e1 e2
          subst e0 e1 e2
          exact ⟨⟨t, v, s⟩, by simpa using hat 0 (by omega), by simpa using hat 1 (by omega), by simpa using hat 2 (by omega), ⟨wf_i64 w0, wf_i64 w1, wf_i64 w2⟩⟩
    rcases Nat.eq_zero_or_pos len with h0 | h0
    · exact ⟨fun _ => ⟨0, 0, 0⟩, hl, hm, fun j hj => by omega, fun hj => by omega⟩
    · obtain ⟨b, off, spot⟩ := ad
      have hspot : spot = none := by
        obtain ⟨p, hv, -⟩ := hone 0 (by omega)
        simpa [Addr.add] using World.cell?_spot hv
      subst hspot
      have hadd : ∀ i j, ((⟨b, off, none⟩ : Addr).add i).add j = ⟨b, off + i + j, none⟩ := fun i j => by
        have h1 : (⟨b, off, none⟩ : Addr).add i = ⟨b, off + i, none⟩ := by unfold Addr.add; split <;> simp_all
        rw [h1]
        unfold Addr.add; split <;> simp_all
      have hone' : ∀ i, ∃ p : Pt, i < cap → w.cell? ⟨b, off + i * 3, none⟩ = some (.int .i64 p.t) ∧ w.cell? ⟨b, off + i * 3 + 1, none⟩ = some (.int .i64 p.v) ∧ w.cell? ⟨b, off + i * 3 + 2, none⟩ = some (.int .i64 p.s) ∧ PtOk p := by
        intro i
        by_cases hic : i < cap
        · obtain ⟨p, h1, h2, h3, h4⟩ := hone i hic
          rw [hadd] at h1 h2 h3
          exact ⟨p, fun _ => ⟨h1, h2, h3, h4⟩⟩
        · exact ⟨⟨0, 0, 0⟩, fun h => absurd h hic⟩
      have hsp := fun i => Classical.choose_spec (hone' i)
      refine ⟨fun i => Classical.choose (hone' i), hl, hm, fun j hj => (hsp j (by omega)).2.2.2, fun _ => ⟨b, off, rfl, World.block_lt_of_cell? w _ (hsp 0 (by omega)).1, fun j hj => ?_⟩⟩
      obtain ⟨h1, h2, h3, -⟩ := hsp j (by omega)
      exact ⟨h1, h2, h3⟩
theorem IsPoints.cut {w : World} {a : Option Addr} {len cap : Nat} {f : Nat → Pt} (h : IsPoints w a len cap f) (m : Nat) (hm : m ≤ len) :
    ∃ g : Nat → Pt, (∀ j, PtOk (g j)) ∧ SlP w (fun x => x < w.heap.size) a m g := by
  refine ⟨fun j => if j < m then f j else ⟨0, 0, 0⟩, fun j => ?_, (h.sl.take hm).congr fun j hj => (if_pos hj).symm⟩
  show PtOk (if j < m then f j else ⟨0, 0, 0⟩)
  by_cases hj : j < m
  · rw [if_pos hj]; exact h.ok j (by omega)
  · rw [if_neg hj]; exact ⟨by unfold I64; simp, by unfold I64; simp, by unfold I64; simp⟩
end Go.Proofs.YtboecnakndpgfaaDoor
namespace Go.Proofs.YtboecnakndpgfaaDoor
open Go.RowKit
def ptCells (l : List Pt) : List Value := l.flatMap fun p => [.int .i64 p.t, .int .i64 p.v, .int .i64 p.s]
theorem ptCells_append (l l' : List Pt) : ptCells (l ++ l') = ptCells l ++ ptCells l' := by simp [ptCells]
theorem ptCells_length (l : List Pt) : (ptCells l).length = l.length * 3 := by
  induction l with
  | nil => rfl
  | cons p l ih =>
    show (Value.int .i64 p.t :: Value.int .i64 p.v :: Value.int .i64 p.s :: ptCells l).length = _
    simp only [List.length_cons, ih]
    omega
theorem ptCells_at : ∀ (l : List Pt) (j : Nat) (p : Pt), l[j]? = some p → (ptCells l)[j * 3]? = some (.int .i64 p.t) ∧ (ptCells l)[j * 3 + 1]? = some (.int .i64 p.v) ∧ (ptCells l)[j * 3 + 2]? = some (.int .i64 p.s)
  | [], _, _, h => by simp at h
  | q :: l, 0, p, h => by
    simp at h
    subst h
    exact ⟨rfl, rfl, rfl⟩
  | q :: l, j + 1, p, h => by
    simp at h
    obtain ⟨h1, h2, h3⟩ := ptCells_at l j p h
    have e : ptCells (q :: l) = .int .i64 q.t :: .int .i64 q.v :: .int .i64 q.s :: ptCells l := rfl
    rw [e, show (j + 1) * 3 = j * 3 + 1 + 1 + 1 by omega]
    simp only [List.getElem?_cons_succ]
    exact ⟨h1, h2, h3⟩
/-- The slice v owns just the points l. -/
def PtRow (w : World) (base : Nat) (v : Value) (l : List Pt) : Prop := w.ownsRow base 34 3 v l.length (ptCells l)
namespace PtRow
variable {w w' : World} {base : Nat} {v : Value} {l : List Pt}
theorem nil (w : World) (base : Nat) : PtRow w base (.slice none 0 0) [] := ⟨rfl, .inl ⟨rfl, rfl⟩⟩
theorem form (h : PtRow w base v l) : ∃ A c, v = .slice A l.length c ∧ l.length ≤ c := by
  obtain ⟨A, c, h1, h2, -⟩ := own_form h
  exact ⟨A, c, h1, h2⟩
theorem sl {A : Option Addr} {c : Nat} (h : PtRow w base (.slice A l.length c) l) : SlP w (fun k => base ≤ k ∧ (Value.slice A l.length c).ownBlock = some k) A l.length (fun j => l.getD j ⟨0, 0, 0⟩) := by
  intro hn
  obtain ⟨g, hA, hb⟩ : ∃ g, A = some ⟨g, 0, none⟩ ∧ base ≤ g := by
    rcases h.2 with ⟨_, h0⟩ | ⟨g, _, _, hv, hb, _⟩
    · omega
    · exact ⟨g, by injection hv, hb⟩
  subst hA
  refine ⟨g, 0, rfl, ⟨hb, rfl⟩, fun j hj => ?_⟩
  have hadd : ∀ i, (⟨g, 0, none⟩ : Addr).add i = ⟨g, 0 + i, none⟩ := fun i => by unfold Addr.add; split <;> simp_all
  obtain ⟨h1, h2, h3⟩ := ptCells_at l j l[j] (List.getElem?_eq_getElem hj)
  have e : (fun j => l.getD j (⟨0, 0, 0⟩ : Pt)) j = l[j] := by simp [List.getD_eq_getElem?_getD, hj]
  rw [e]
  have c1 := World.ownsRow.cells h (g := g) rfl _ _ h1
  have c2 := World.ownsRow.cells h (g := g) rfl _ _ h2
  have c3 := World.ownsRow.cells h (g := g) rfl _ _ h3
  rw [hadd] at c1 c2 c3
  exact ⟨c1, c2, c3⟩
theorem keeps {S : Nat → Prop} (h : PtRow w base v l) (hk : Keeps S w w') (hne : ∀ g, v.ownBlock = some g → ¬ S g) : PtRow w' base v l := own_keeps h hk hne
theorem below (h : PtRow w base v l) (hb : Below w.heap.size w w') : PtRow w' base v l := own_keeps h (Keeps.of_below (S := fun _ => False) hb) (fun _ _ h => h)
theorem ownBlock_lt (h : PtRow w base v l) : ∀ g, v.ownBlock = some g → base ≤ g ∧ g < w.heap.size := by
  intro g hg
  rcases h.2 with ⟨rfl, _⟩ | ⟨g', cap, cur, rfl, hb, hh, _⟩
  · simp [Value.ownBlock] at hg
  · have : g' = g := by simpa [Value.ownBlock] using hg
    subst this
    exact ⟨hb, (Array.getElem?_eq_some_iff.1 hh).1⟩
end PtRow
/-- Behind an append: known blocks of another type than the row's stay. -/
theorem Own.grown {w0 w w' : World} {L : List (Nat × TypeId × Array Value)} {row : Option Nat} (h : Own w0 L w) (hg : w.grownBy w' row) (hrow : ∀ k, row = some k → w0.heap.size ≤ k ∧ ∀ b ∈ L, b.1 ≠ k) : Own w0 L w' := by
  have hk : Keeps (fun k => row = some k) w w' := (Keeps.refl _ w).grown hg (fun k e _ => e)
  refine ⟨?_, fun b hb => ⟨(h.blk b hb).1, (h.blk b hb).2.keeps hk (fun e => (hrow _ e).2 b hb rfl)⟩, h.nd⟩
  exact h.bel.trans (hk.below h.bel.size (fun k hlt e => by have := (hrow k e).1; omega))
theorem points_info : (Tryd.prog.info? 34).map (fun i => (i.zero, i.size, i.bytes)) = some (some (.agg #[.int .i64 0, .int .i64 0, .int .i64 0]), 3, 24) := by kernel_rfl
/-- append(back, p): p lies alone in the block g. -/
theorem run_append_pt {w : World} {base g : Nat} {v : Value} {l : List Pt} {p : Pt} {c : Nat} {ty : TypeId} (hown : PtRow w base v l) (hg : Blk w g 34 #[.int .i64 p.t, .int .i64 p.v, .int .i64 p.s])
    (h63 : l.length < 4294967296) (hbase : base ≤ w.heap.size) :
    ∃ v' w', (Builtin.append_ #[23, 23] ty #[v, .slice (some ⟨g, 0, none⟩) 1 c]).run Tryd.prog w = .ok v' w' ∧ PtRow w' base v' (l ++ [p]) ∧ w.grownBy w' v.ownBlock ∧ (v'.ownBlock = v.ownBlock ∨ v'.ownBlock = some w.heap.size) := by
  obtain ⟨i, hi, hz, hs, hb⟩ := info_parts points_info
  have hadd : ∀ i, (⟨g, 0, none⟩ : Addr).add i = ⟨g, 0 + i, none⟩ := fun i => by unfold Addr.add; split <;> simp_all
  obtain ⟨v', w', h1, h2, h3, _, h4⟩ := run_append_own_at (P := Tryd.prog) w base 23 ty 34 i _ 3 24 Tryd.underlying23 hi hz hs hb rfl (by decide) v l.length (ptCells l) hown ⟨g, 0, none⟩ 1 c [.int .i64 p.t, .int .i64 p.v, .int .i64 p.s] rfl
    (fun j u hu => by
      rw [hadd, Nat.zero_add, hg.cell j]
      simpa using hu)
    (by intro u hu; simp at hu; rcases hu with rfl | rfl | rfl <;> rfl) (by unfold maxLen; omega) (by omega) hbase
  refine ⟨v', w', h1, ?_, h3, h4⟩
  unfold PtRow
  rw [ptCells_append, List.length_append]
  exact h2
theorem wpList_append_pt {w : World} {base g : Nat} {v : Value} {l : List Pt} {p : Pt} {c : Nat} {ops : Array Oper} {rest : List Oper} {o : Oper} {a : Act} {Q : Exit → Act → World → Prop} (hgd : o.guard = none) (s x : Operand)
    (ho : o.op = .call { callee := .builtin .append, args := #[s, x], argTypes := #[23, 23] }) (hs : a.eval s = v) (hx : a.eval x = .slice (some ⟨g, 0, none⟩) 1 c)
    (hown : PtRow w base v l) (hg : Blk w g 34 #[.int .i64 p.t, .int .i64 p.v, .int .i64 p.s]) (h63 : l.length < 4294967296) (hbase : base ≤ w.heap.size)
    (h : ∀ v' w', PtRow w' base v' (l ++ [p]) → w.grownBy w' v.ownBlock → (v'.ownBlock = v.ownBlock ∨ v'.ownBlock = some w.heap.size) → wpList Tryd.prog ops Q rest (a.put o.dst v') w') : wpList Tryd.prog ops Q (o :: rest) a w := by
  refine wpList_plain hgd fun K hK => ?_
  obtain ⟨v', w', hrun, h2, h3, h4⟩ := run_append_pt (ty := o.type) (c := c) hown hg h63 hbase
  unfold Oper.wp execOp
  simp only [ho, resolve, invoke, builtin, Sem.run_bind, Sem.run_pure, Result.andThen_ok, List.map_toArray, List.map_cons, List.map_nil, hs, hx, hrun]
  exact hK _ _ (h v' w' h2 h3 h4)
end Go.Proofs.YtboecnakndpgfaaDoor
namespace Go.Proofs.YtboecnakndpgfaaDoor
open Go.RowKit
set_option linter.unusedVariables false
section
variable {P : Program} {w : World} {t e ty : TypeId} {z : Value} {bytes base n m c cap g : Nat} {xs : List Value} {D : Nat → Prop} {ad : Addr} {f : Nat → Value}

theorem run_append_kept (he : Elem1 P t e z bytes) (hown : w.ownsRow base e 1 (.slice (some ⟨g, 0, none⟩) n cap) n xs) (hsl : Sl w D (some ad) m f) (h1 : ∀ j, j < m → (f j).oneCell' = true)
    (h63 : n + m ≤ maxLen) (hbytes : (n + m) * bytes ≤ 140737488355328) (hbase : base ≤ w.heap.size) :
    ∃ v' w', (Builtin.append_ #[t, t] ty #[.slice (some ⟨g, 0, none⟩) n cap, .slice (some ad) m c]).run P w = .ok v' w' ∧ w'.ownsRow base e 1 v' (n + m) (xs ++ (List.range m).map f) ∧ w.grownBy w' (some g) ∧
      (v'.ownBlock = some g ∨ v'.ownBlock = some w.heap.size) ∧ ∀ j u, xs[j]? = some u → w'.cell? ⟨g, j, none⟩ = some u := by
  have hcells : ∀ j u, ((List.range m).map f)[j]? = some u → w.cell? (ad.add j) = some u := by
    intro j u hu
    rcases Nat.eq_zero_or_pos m with h0 | h0
    · subst h0
      simp at hu
    · obtain ⟨b, off, h, _, hc⟩ := hsl h0
      injection h with h
      subst h
      rw [List.getElem?_map] at hu
      rcases Nat.lt_or_ge j m with hj | hj
      · rw [List.getElem?_range hj] at hu
        simp at hu
        subst hu
        have hadd : (⟨b, off, none⟩ : Addr).add j = ⟨b, off + j, none⟩ := by unfold Addr.add; split <;> simp_all
        rw [hadd]
        exact hc j hj
      · rw [List.getElem?_eq_none (by simpa using hj)] at hu
        cases hu
  have hone : ∀ u ∈ (List.range m).map f, u.oneCell' = true := by
    intro u hu; rw [List.mem_map] at hu; obtain ⟨j, hj, rfl⟩ := hu; exact h1 j (by simpa using hj)
  obtain ⟨v', w', hrun, h2, h3, h5⟩ := run_append_sl (P := P) (ty := ty) (c := c) he hown hsl h1 h63 hbytes hbase
  obtain ⟨ht, hz1, i, hi, hz, hs, hb⟩ := he
  subst hb
  have hold : ∀ j u, xs[j]? = some u → w.cell? ⟨g, j, none⟩ = some u := by
    intro j u hu
    have := hown.cells (g := g) rfl j u hu
    have hadd : (⟨g, 0, none⟩ : Addr).add j = ⟨g, j, none⟩ := by rw [show (⟨g, 0, none⟩ : Addr).add j = ⟨g, 0 + j, none⟩ from by unfold Addr.add; split <;> simp_all, Nat.zero_add]
    rwa [hadd] at this
  refine ⟨v', w', hrun, h2, h3, h5, ?_⟩
  have hl1 : ((List.range m).map f).length = m * i.size := by rw [hs]; simp
  by_cases hroom : n + m ≤ cap
  · rcases hown.2 with ⟨hn, rfl⟩ | ⟨g', cap', cur, hv, hbg, hg, hnc, hcm, hcs, htake⟩
    · cases hn
    · injection hv with hv1 hv2 hv3
      injection hv1 with hv1
      injection hv1 with hv1
      subst hv1
      subst hv3
      have hr := run_append_room (P := P) w t ty e i ht hi g n cap cur hg ad m c _ hl1 hcells hone hroom (by rw [hl1, hs, hcs]; omega)
      rw [hr] at hrun
      injection hrun with hv hw
      subst hv
      intro j u hu
      have hj : j < xs.length := (List.getElem?_eq_some_iff.1 hu).1
      have := h2.cells (g := g) rfl j u (by rw [List.getElem?_append_left hj]; exact hu)
      have hadd : (⟨g, 0, none⟩ : Addr).add j = ⟨g, j, none⟩ := by rw [show (⟨g, 0, none⟩ : Addr).add j = ⟨g, 0 + j, none⟩ from by unfold Addr.add; split <;> simp_all, Nat.zero_add]
      rwa [hadd] at this
  · have hr := run_append_grow (P := P) w t ty e i z ht hi hz ⟨g, 0, none⟩ n cap xs (by rw [hs]; exact hown.1) (hown.cells (g := g) rfl) ad m c _ hl1 hcells (by omega) (by simp only [maxLen] at h63; omega) (growslice_fits (by omega) hbytes)
    rw [hr] at hrun
    injection hrun with hv hw
    subst hw
    intro j u hu
    have h := hold j u hu
    exact (World.cell?_of_block (w := w.drew) (a := ⟨g, j, none⟩) (Below.heap_alloc _ _ _ (World.block_lt_of_cell? w.drew _ h))).trans h

theorem step_append_kept {ops : Array Oper} {o : Oper} {a : Act} {K : Act → World → Prop} {Q : Exit → Act → World → Prop} {E : Prop} (he : Elem1 P t e z bytes) (hgd : o.guard = none) (s x : Operand)
    (ho : o.op = .call { callee := .builtin .append, args := #[s, x], argTypes := #[t, t] }) (hs : a.eval s = .slice (some ⟨g, 0, none⟩) n cap) (hx : a.eval x = .slice (some ad) m c)
    (hown : w.ownsRow base e 1 (.slice (some ⟨g, 0, none⟩) n cap) n xs) (hsl : Sl w D (some ad) m f) (h1 : ∀ j, j < m → (f j).oneCell' = true)
    (h63 : n + m ≤ maxLen) (hbytes : (n + m) * bytes ≤ 140737488355328) (hbase : base ≤ w.heap.size)
    (h : ∀ v' w', w'.ownsRow base e 1 v' (n + m) (xs ++ (List.range m).map f) → w.grownBy w' (some g) → (v'.ownBlock = some g ∨ v'.ownBlock = some w.heap.size) → (∀ j u, xs[j]? = some u → w'.cell? ⟨g, j, none⟩ = some u) → K (a.put o.dst v') w') :
    if Region.wanted o (yielded ops a.tmps) = true then Oper.wp P o a w K Q else E := by
  have hw : Region.wanted o (yielded ops a.tmps) = true := by simp [Region.wanted, hgd]
  rw [if_pos hw]
  obtain ⟨v', w', hrun, h2, h3, h4, h5⟩ := run_append_kept (P := P) (ty := o.type) (c := c) he hown hsl h1 h63 hbytes hbase
  unfold Oper.wp execOp
  simp only [ho, resolve, invoke, builtin, Sem.run_bind, Sem.run_pure, Result.andThen_ok, List.map_toArray, List.map_cons, List.map_nil, hs, hx, hrun]
  exact h v' w' h2 h3 h4 h5
end
end Go.Proofs.YtboecnakndpgfaaDoor
namespace Go.Proofs.YtboecnakndpgfaaDoor
set_option maxRecDepth 100000
open Go.RowKit
set_option linter.unusedSimpArgs false
set_option linter.unusedVariables false
theorem and_mask_walk (x a : Nat) (hx : x < 18446744073709551616) (ha : a < 64) : bits .and .u64 (x : Int) (IntKind.u64.wrap (IntKind.u64.wrap ((2 : Int) ^ a) - 1)) = (x : Int) % 2 ^ a := by
  have hp : 2 ^ a ≤ 2 ^ 63 := Nat.pow_le_pow_right (by omega) (by omega)
  have h0 : 0 < 2 ^ a := Nat.pow_pos (by omega)
  have e : IntKind.u64.wrap (IntKind.u64.wrap ((2 : Int) ^ a) - 1) = ((2 ^ a - 1 : Nat) : Int) := by
    rw [pow_cast, IntKind.wrap_u64, IntKind.wrap_u64]
    omega
  rw [e, and_mask_u64 x a hx ha, pow_cast]
  rfl
theorem wr_wr {w w' : World} {x y : Nat} {g g' : Option Nat} {L M : List Nat} (hx : Wr w x g L) (hy : Wr w y g' M) (hxy : x ≠ y) (hg : ∀ k, g = some k → g' ≠ some k) (hk : Keeps (fun k => k = y ∨ some k = g') w w') : Wr w' x g L := by
  obtain ⟨h1, h2, v, hv, hb, ho⟩ := hx
  obtain ⟨_, _, v', hv', hb', ho'⟩ := hy
  refine Wr.keeps ⟨h1, h2, v, hv, hb, ho⟩ hk ?_ ?_
  · rintro (e | e)
    · exact hxy e
    · exact own_ne ho' hb (by decide) (hv'.trans e.symm)
  · rintro k hk' (e | e)
    · exact own_ne ho hb' (by decide) (by rw [hv, hk', e])
    · exact hg k hk' e.symm
theorem moved_ne {w : World} {x : Nat} {g g1 g2 : Option Nat} {L : List Nat} (hx : Wr w x g L) (hm : Moved w g1 g2) (hg : ∀ k, g = some k → g1 ≠ some k) : ∀ k, g = some k → g2 ≠ some k := by
  intro k hk e
  rcases hm with h | ⟨q, h, hq⟩
  · exact hg k hk (h ▸ e)
  · rw [e] at h; injection h with h
    subst hk
    have := hx.glt
    omega
theorem sl_of_bytes {w : World} {base c n : Nat} {A : Option Addr} {bs : List Nat} (ho : w.ownsRow base 5 1 (.slice A n c) n (bs.map byteV)) : Sl w (fun k => base ≤ k ∧ k < w.heap.size) A n (byteC bs) := by
  refine (Sl.of_own (f := byteC bs) ho ?_).mono (fun k hk => ho.lt k hk)
  intro j u hu
  rw [List.getElem?_map] at hu
  cases hb : bs[j]? with
  | none => rw [hb] at hu; cases hu
  | some b =>
    rw [hb] at hu
    simp at hu
    unfold byteC
    rw [List.getD_eq_getElem?_getD, hb, ← hu]
    rfl

end Go.Proofs.YtboecnakndpgfaaDoor
namespace Go.Proofs.YtboecnakndpgfaaDoor.V
/-- The bytes of a number. -/
def vput (u : Nat) : List Nat := if u < 128 then [u] else (u % 128 + 128) :: vput (u / 128)
termination_by u
decreasing_by omega
theorem vput_small {u : Nat} (h : u < 128) : vput u = [u] := by rw [vput, if_pos h]
theorem vput_big {u : Nat} (h : ¬ u < 128) : vput u = (u % 128 + 128) :: vput (u / 128) := by rw [vput, if_neg h]
theorem vput_byte (u : Nat) : ∀ b ∈ vput u, b < 256 := by
  induction u using vput.induct with
  | case1 u h => rw [vput_small h]; simp; omega
  | case2 u h ih => rw [vput_big h]; intro b hb; rcases List.mem_cons.1 hb with rfl | hb; omega; exact ih b hb
theorem vput_len (k : Nat) : ∀ u, u < 128 ^ k → 0 < k → (vput u).length ≤ k := by
  induction k with
  | zero => intro _ _ h; omega
  | succ k ih =>
    intro u hu _
    by_cases h : u < 128
    · rw [vput_small h]; simp
    · rw [vput_big h, List.length_cons]
      have h1 : u / 128 < 128 ^ k := by rw [Nat.div_lt_iff_lt_mul (by omega)]; rw [Nat.pow_succ] at hu; exact hu
      have hk : 0 < k := by
        rcases Nat.eq_zero_or_pos k with h0 | h0
        · subst h0; simp at h1; omega
        · exact h0
      have := ih _ h1 hk
      omega
theorem vput_len10 {u : Nat} (h : u < 18446744073709551616) : (vput u).length ≤ 10 := vput_len 10 u (by omega) (by omega)
theorem vput_pos (u : Nat) : 0 < (vput u).length := by
  by_cases h : u < 128
  · rw [vput_small h]; simp
  · rw [vput_big h]; simp
theorem vput_mono (n : Nat) : ∀ a b, a ≤ b → b ≤ n → (vput a).length ≤ (vput b).length := by
  induction n with
  | zero => intro a b h1 h2; have h3 : a = b := by omega
            rw [h3]; exact Nat.le_refl _
  | succ n ih =>
    intro a b h1 h2
    by_cases ha : a < 128
    · rw [vput_small ha]; have := vput_pos b; simp; omega
    · rw [vput_big ha, vput_big (show ¬ b < 128 by omega), List.length_cons, List.length_cons]
      have := ih (a / 128) (b / 128) (by omega) (by omega)
      omega
theorem vor_step (u : Nat) : bits .or .u8 (IntKind.u8.wrap (u : Int)) 128 = ((u % 128 + 128 : Nat) : Int) := by
  rw [IntKind.wrap_u8', show (u : Int) % 256 = ((u % 256 : Nat) : Int) from by omega, show (128 : Int) = ((128 : Nat) : Int) from rfl, u8_or_nat _ _ (by omega) (by omega)]
  have key : ∀ x : Fin 256, (x.val ||| 128) = x.val % 128 + 128 := by decide +kernel
  have := key ⟨u % 256, Nat.mod_lt _ (by omega)⟩
  simp only at this
  rw [this]
  omega
theorem vor_step2 (u : Nat) : bits .or .u8 ((u : Int) % 256) 128 = ((u % 128 + 128 : Nat) : Int) := by
  rw [← vor_step, IntKind.wrap_u8']
end Go.Proofs.YtboecnakndpgfaaDoor.V
namespace Go.Proofs.YtboecnakndpgfaaDoor.V
/-- The number of bytes that carry on, ten at most. -/
def leadN : Nat → List Nat → Nat
  | 0, _ => 0
  | _ + 1, [] => 0
  | f + 1, b :: l => if 128 ≤ b then leadN f l + 1 else 0
def lead (l : List Nat) : Nat := leadN 10 l
theorem leadN_eq : ∀ (f k : Nat) (l : List Nat), k ≤ f → k ≤ l.length → (∀ j, j < k → 128 ≤ l.getD j 0) → (k < f → k < l.length → l.getD k 0 < 128) → leadN f l = k
  | 0, k, _, h1, _, _, _ => by unfold leadN; omega
  | f + 1, k, [], _, h2, _, _ => by simp at h2; unfold leadN; omega
  | f + 1, 0, b :: l, _, _, _, h4 => by
    have := h4 (by omega) (by simp)
    simp at this
    unfold leadN
    rw [if_neg (by omega)]
  | f + 1, k + 1, b :: l, h1, h2, h3, h4 => by
    have hb := h3 0 (by omega)
    simp at hb h2
    unfold leadN
    rw [if_pos hb, leadN_eq f k l (by omega) h2 (fun j hj => by have := h3 (j + 1) (by omega); simpa using this) (fun a b => by have := h4 (by omega) (by simpa using b); simpa using this)]
theorem lead_eq {l : List Nat} {k : Nat} (h1 : k ≤ 10) (h2 : k ≤ l.length) (h3 : ∀ j, j < k → 128 ≤ l.getD j 0) (h4 : k < 10 → k < l.length → l.getD k 0 < 128) : lead l = k :=
  leadN_eq 10 k l h1 h2 h3 h4
theorem leadN_spec : ∀ (f : Nat) (l : List Nat), leadN f l ≤ f ∧ leadN f l ≤ l.length ∧ (∀ j, j < leadN f l → 128 ≤ l.getD j 0) ∧ (leadN f l < f → leadN f l < l.length → l.getD (leadN f l) 0 < 128)
  | 0, l => by unfold leadN; simp
  | f + 1, [] => by unfold leadN; simp
  | f + 1, b :: l => by
    obtain ⟨h1, h2, h3, h4⟩ := leadN_spec f l
    unfold leadN
    by_cases hb : 128 ≤ b
    · rw [if_pos hb]
      refine ⟨by omega, by simpa using h2, ?_, ?_⟩
      · intro j hj
        cases j with
        | zero => simpa using hb
        | succ j => have := h3 j (by omega); simpa using this
      · intro a c
        have := h4 (by omega) (by simpa using c)
        simpa using this
    · rw [if_neg hb]
      refine ⟨by omega, by omega, fun j hj => by omega, fun _ _ => by simp; omega⟩
theorem lead_spec (l : List Nat) : lead l ≤ 10 ∧ lead l ≤ l.length ∧ (∀ j, j < lead l → 128 ≤ l.getD j 0) ∧ (lead l < 10 → lead l < l.length → l.getD (lead l) 0 < 128) := leadN_spec 10 l
/-- The number of bytes, the lowest first. -/
def vval : List Nat → Nat
  | [] => 0
  | b :: l => b % 128 + 128 * vval l
theorem vval_append : ∀ (l m : List Nat), vval (l ++ m) = vval l + 128 ^ l.length * vval m
  | [], m => by simp [vval]
  | b :: l, m => by
    rw [List.cons_append, vval, vval, vval_append l m, List.length_cons, Nat.pow_succ, Nat.mul_add, ← Nat.mul_assoc, Nat.mul_comm 128 (128 ^ l.length)]
    omega
theorem vval_lt : ∀ (l : List Nat), vval l < 128 ^ l.length
  | [] => by simp [vval]
  | b :: l => by
    have := vval_lt l
    rw [vval, List.length_cons, Nat.pow_succ]
    omega
theorem take_get {l : List Nat} {k : Nat} (h : k < l.length) : l.take (k + 1) = l.take k ++ [l.getD k 0] := by
  rw [List.take_succ_eq_append_getElem h, List.getD_eq_getElem?_getD, List.getElem?_eq_getElem h]
  rfl
theorem vval_step {l : List Nat} {k : Nat} (h : k < l.length) : vval (l.take (k + 1)) = vval (l.take k) + 128 ^ k * (l.getD k 0 % 128) := by
  rw [take_get h, vval_append, List.length_take, Nat.min_eq_left (by omega)]
  simp [vval]
theorem vval_take_lt (l : List Nat) (k : Nat) : vval (l.take k) < 128 ^ k := by
  have h := vval_lt (l.take k)
  have : (l.take k).length ≤ k := by rw [List.length_take]; omega
  exact Nat.lt_of_lt_of_le h (Nat.pow_le_pow_right (by omega) this)
/-- What bytes tell: the number, how many bytes it has, what is wrong. -/
def vget (l : List Nat) : Nat × Nat × Nat :=
  if lead l = 10 then (0, 0, 11)
  else if lead l = l.length then (0, 0, 10)
  else if (lead l = 9 ∧ 1 < l.getD 9 0) ∨ (0 < lead l ∧ l.getD (lead l) 0 = 0) then (0, 0, 11)
  else (vval (l.take (lead l + 1)), lead l + 1, 0)
theorem vget_long {l : List Nat} (h : lead l = 10) : vget l = (0, 0, 11) := by unfold vget; rw [if_pos h]
theorem vget_end {l : List Nat} (h : lead l = l.length) (h' : l.length < 10) : vget l = (0, 0, 10) := by unfold vget; rw [if_neg (by omega), if_pos h]
theorem vget_form {l : List Nat} (h : lead l < 10) (h' : lead l < l.length) (hb : (lead l = 9 ∧ 1 < l.getD 9 0) ∨ (0 < lead l ∧ l.getD (lead l) 0 = 0)) : vget l = (0, 0, 11) := by
  unfold vget; rw [if_neg (by omega), if_neg (by omega), if_pos hb]
theorem vget_ok {l : List Nat} (h : lead l < 10) (h' : lead l < l.length) (hb : ¬ ((lead l = 9 ∧ 1 < l.getD 9 0) ∨ (0 < lead l ∧ l.getD (lead l) 0 = 0))) : vget l = (vval (l.take (lead l + 1)), lead l + 1, 0) := by
  unfold vget; rw [if_neg (by omega), if_neg (by omega), if_neg hb]
theorem vval_lt64 {l : List Nat} {k : Nat} (h : k < 10) (hl : k < l.length) (h9 : k = 9 → l.getD 9 0 ≤ 1) : vval (l.take (k + 1)) < 18446744073709551616 := by
  by_cases hk : k = 9
  · subst hk
    have h1 := vval_step hl
    have h2 := vval_take_lt l 9
    have h3 := h9 rfl
    have h4 : 128 ^ 9 * (l.getD 9 0 % 128) ≤ 128 ^ 9 * 1 := Nat.mul_le_mul_left _ (by omega)
    omega
  · have h2 := vval_take_lt l (k + 1)
    have h3 : (128 : Nat) ^ (k + 1) ≤ 128 ^ 9 := Nat.pow_le_pow_right (by omega) (by omega)
    omega
theorem vget_cases (l : List Nat) :
    (vget l = (0, 0, 11) ∨ vget l = (0, 0, 10)) ∨
    (lead l < 10 ∧ lead l < l.length ∧ l.getD (lead l) 0 < 128 ∧ (∀ j, j < lead l → 128 ≤ l.getD j 0) ∧ (lead l = 9 → l.getD 9 0 ≤ 1) ∧ (0 < lead l → l.getD (lead l) 0 ≠ 0) ∧ vget l = (vval (l.take (lead l + 1)), lead l + 1, 0)) := by
  obtain ⟨h1, h2, h3, h4⟩ := lead_spec l
  unfold vget
  by_cases c1 : lead l = 10
  · rw [if_pos c1]; exact .inl (.inl rfl)
  rw [if_neg c1]
  by_cases c2 : lead l = l.length
  · rw [if_pos c2]; exact .inl (.inr rfl)
  rw [if_neg c2]
  by_cases c3 : (lead l = 9 ∧ 1 < l.getD 9 0) ∨ (0 < lead l ∧ l.getD (lead l) 0 = 0)
  · rw [if_pos c3]; exact .inl (.inl rfl)
  rw [if_neg c3]
  refine .inr ⟨by omega, by omega, h4 (by omega) (by omega), h3, fun h => ?_, fun h h0 => ?_, rfl⟩
  · exact Nat.le_of_not_lt fun hc => c3 (.inl ⟨h, hc⟩)
  · exact c3 (.inr ⟨h, h0⟩)
theorem vget_lt (l : List Nat) : (vget l).1 < 18446744073709551616 ∧ (vget l).2.1 ≤ 10 ∧ (vget l).2.1 ≤ l.length := by
  rcases vget_cases l with (h | h) | ⟨h1, h2, _, _, h5, _, h⟩
  · rw [h]; simp
  · rw [h]; simp
  · rw [h]; exact ⟨vval_lt64 h1 h2 h5, by show lead l + 1 ≤ 10; omega, by show lead l + 1 ≤ _; omega⟩
theorem vget_e (l : List Nat) : (vget l).2.2 = 0 ∨ ((vget l).2.2 = 10 ∨ (vget l).2.2 = 11) ∧ (vget l).1 = 0 ∧ (vget l).2.1 = 0 := by
  rcases vget_cases l with (h | h) | ⟨_, _, _, _, _, _, h⟩ <;> rw [h] <;> simp
/-- A number has one text alone. -/
theorem vput_vval : ∀ (k : Nat) (l : List Nat), k < l.length → (∀ j, j < k → 128 ≤ l.getD j 0) → l.getD k 0 < 128 → (0 < k → l.getD k 0 ≠ 0) → (∀ j, l.getD j 0 < 256) → vput (vval (l.take (k + 1))) = l.take (k + 1) ∧ (0 < k → 0 < vval (l.take (k + 1))) ∧ (l.getD k 0 ≠ 0 → 0 < vval (l.take (k + 1)))
  | 0, b :: l, _, _, h3, _, _ => by
    have hb : b < 128 := by simpa using h3
    have e : vval ((b :: l).take (0 + 1)) = b := by
      rw [show (b :: l).take (0 + 1) = [b] by rfl]
      unfold vval
      simp [vval]; omega
    rw [e, vput_small hb]
    refine ⟨rfl, by omega, fun h => by simp at h; omega⟩
  | k + 1, b :: l, h1, h2, h3, h4, h5 => by
    have hb : 128 ≤ b := by have := h2 0 (by omega); simpa using this
    have hb2 : b < 256 := by have := h5 0; simpa using this
    have hk : l.getD k 0 ≠ 0 := by have := h4 (by omega); simpa using this
    obtain ⟨i1, _, i3⟩ := vput_vval k l (by simpa using h1) (fun j hj => by have := h2 (j + 1) (by omega); simpa using this) (by simpa using h3) (fun _ => hk) (fun j => by have := h5 (j + 1); simpa using this)
    have hp := i3 hk
    have e : (b :: l).take (k + 1 + 1) = b :: l.take (k + 1) := rfl
    rw [e]
    unfold vval
    generalize vval (l.take (k + 1)) = x at *
    have e2 : ¬ b % 128 + 128 * x < 128 := by omega
    rw [vput_big e2, show (b % 128 + 128 * x) / 128 = x by omega, i1, show (b % 128 + 128 * x) % 128 + 128 = b by omega]
    exact ⟨rfl, by omega, by omega⟩
  | _, [], h, _, _, _, _ => by simp at h
theorem vget_put {l : List Nat} (hb : ∀ j, l.getD j 0 < 256) (h : (vget l).2.2 = 0) : 1 ≤ (vget l).2.1 ∧ (vget l).2.1 ≤ l.length ∧ vput (vget l).1 = l.take (vget l).2.1 := by
  rcases vget_cases l with (h' | h') | ⟨h1, h2, h3, h4, h5, h6, h'⟩
  · rw [h'] at h; simp at h
  · rw [h'] at h; simp at h
  · rw [h']
    exact ⟨by show 1 ≤ lead l + 1; omega, by show lead l + 1 ≤ _; omega, (vput_vval _ _ h2 h4 h3 h6 hb).1⟩
theorem vput_parts (u : Nat) : ∃ k, (vput u).length = k + 1 ∧ (∀ j, j < k → 128 ≤ (vput u).getD j 0) ∧ (vput u).getD k 0 < 128 ∧ (0 < k → (vput u).getD k 0 ≠ 0) ∧ vval (vput u) = u ∧ (u ≠ 0 → (vput u).getD k 0 ≠ 0) := by
  induction u using vput.induct with
  | case1 u h =>
    rw [vput_small h]
    exact ⟨0, rfl, fun j hj => by omega, by simpa using h, by omega, by simp [vval]; omega, by simp⟩
  | case2 u h ih =>
    obtain ⟨k, i1, i2, i3, i4, i5, i6⟩ := ih
    rw [vput_big h]
    refine ⟨k + 1, by simp [i1], ?_, by simpa using i3, fun _ => ?_, ?_, fun _ => ?_⟩
    · intro j hj
      cases j with
      | zero => simp
      | succ j => have := i2 j (by omega); simpa using this
    · have := i6 (by omega)
      simpa using this
    · unfold vval; rw [i5]; omega
    · have := i6 (by omega)
      simpa using this
theorem getD_app {l m : List Nat} {j : Nat} (h : j < l.length) : (l ++ m).getD j 0 = l.getD j 0 := by
  rw [List.getD_eq_getElem?_getD, List.getD_eq_getElem?_getD, List.getElem?_append_left h]
/-- What is put is read as it was. -/
theorem vget_vput (u : Nat) (more : List Nat) (hu : u < 18446744073709551616) : vget (vput u ++ more) = (u, (vput u).length, 0) := by
  obtain ⟨k, i1, i2, i3, i4, i5, _⟩ := vput_parts u
  have hl := vput_len10 hu
  have e : lead (vput u ++ more) = k := lead_eq (by omega) (by simp; omega) (fun j hj => by rw [getD_app (by omega)]; exact i2 j hj) (fun _ _ => by rw [getD_app (by omega)]; exact i3)
  have et : (vput u ++ more).take (k + 1) = vput u := by rw [← i1, List.take_left]
  rw [vget_ok (by omega) (by rw [e]; simp; omega), e, et, i5, i1]
  rw [e]
  rintro (⟨h9, hb⟩ | ⟨hk, hb⟩)
  · rw [getD_app (by omega)] at hb
    have h1 := vval_step (l := vput u) (k := 9) (by omega)
    have h2 : (vput u).take (9 + 1) = vput u := List.take_of_length_le (by omega)
    rw [h2, i5] at h1
    have h4 : (vput u).getD 9 0 < 128 := by rw [← h9]; exact i3
    have h3 : 128 ^ 9 * 2 ≤ 128 ^ 9 * ((vput u).getD 9 0 % 128) := Nat.mul_le_mul_left _ (by omega)
    omega
  · rw [getD_app (by omega)] at hb
    exact i4 hk hb
/-- Fewer bytes than were put are not whole. -/
theorem vget_cut (u m : Nat) (hm : m < (vput u).length) (hu : u < 18446744073709551616) : vget ((vput u).take m) = (0, 0, 10) := by
  obtain ⟨k, i1, i2, _⟩ := vput_parts u
  have hl := vput_len10 hu
  have e : ((vput u).take m).length = m := by rw [List.length_take]; omega
  refine vget_end (lead_eq (by omega) (Nat.le_refl _) (fun j hj => ?_) (fun _ h => by omega)) (by omega)
  rw [List.getD_eq_getElem?_getD, List.getElem?_take_of_lt (by omega), ← List.getD_eq_getElem?_getD]
  exact i2 j (by omega)
end Go.Proofs.YtboecnakndpgfaaDoor.V
