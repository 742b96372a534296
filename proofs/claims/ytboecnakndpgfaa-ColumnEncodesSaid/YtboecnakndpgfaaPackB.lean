/-
  Plain facts on bits that are put and got again: no program.
-/
import Derived.Test.YtboecnakndpgfaaPack
namespace Go.Proofs.Ytboecnakndpgfaa
theorem bit_of_byte (b0 b1 b2 b3 b4 b5 b6 b7 r : Nat) (h0 : b0 < 2) (h1 : b1 < 2) (h2 : b2 < 2) (h3 : b3 < 2) (h4 : b4 < 2) (h5 : b5 < 2) (h6 : b6 < 2) (h7 : b7 < 2) (hr : r < 8) :
    (128 * b0 + 64 * b1 + 32 * b2 + 16 * b3 + 8 * b4 + 4 * b5 + 2 * b6 + b7) / 2 ^ (7 - r) % 2 = [b0, b1, b2, b3, b4, b5, b6, b7].getD r 0 := by
  rcases (show r = 0 ∨ r = 1 ∨ r = 2 ∨ r = 3 ∨ r = 4 ∨ r = 5 ∨ r = 6 ∨ r = 7 by omega) with h | h | h | h | h | h | h | h <;> subst h <;> simp <;> omega
theorem bitOf_pack {L : List Nat} (h : ∀ j, L.getD j 0 < 2) (i : Nat) : bitOf (pack L) i = L.getD i 0 := by
  unfold bitOf
  rw [pack_getD]
  unfold byteAt
  have hr : i % 8 < 8 := Nat.mod_lt _ (by omega)
  rw [bit_of_byte _ _ _ _ _ _ _ _ _ (h _) (h _) (h _) (h _) (h _) (h _) (h _) (h _) hr]
  have hd := Nat.div_add_mod i 8
  rcases (show i % 8 = 0 ∨ i % 8 = 1 ∨ i % 8 = 2 ∨ i % 8 = 3 ∨ i % 8 = 4 ∨ i % 8 = 5 ∨ i % 8 = 6 ∨ i % 8 = 7 by omega) with e | e | e | e | e | e | e | e <;> rw [e] at hd ⊢ <;> simp only [List.getD_cons_succ, List.getD_cons_zero] <;> congr 1
theorem gets_congr {bs : List Nat} {p u n : Nat} (h : ∀ j, j < n → bitOf bs (p + j) = u / 2 ^ (n - 1 - j) % 2) : ∀ k, k ≤ n → gets bs p k = u / 2 ^ (n - k) % 2 ^ k := by
  intro k
  induction k with
  | zero => intro _; simp [gets, Nat.mod_one]
  | succ k ih =>
    intro hk
    rw [gets, ih (by omega), h k (by omega)]
    rw [show n - 1 - k = n - (k + 1) by omega, show n - k = (n - (k + 1)) + 1 by omega, Nat.pow_succ 2 (n - (k + 1)), ← Nat.div_div_eq_div_mul]
    generalize u / 2 ^ (n - (k + 1)) = y
    rw [Nat.pow_succ, Nat.mul_comm (2 ^ k) 2, Nat.mod_mul]
    omega
theorem bitsTo_getD (v n k j : Nat) (h : j < k) : (bitsTo v n k).getD j 0 = v / 2 ^ (n - 1 - j) % 2 := by
  unfold bitsTo
  rw [List.getD_eq_getElem?_getD, List.getElem?_map, List.getElem?_range h]; rfl
theorem getD_append_right (L M : List Nat) (j : Nat) : (L ++ M).getD (L.length + j) 0 = M.getD j 0 := by
  rw [List.getD_eq_getElem?_getD, List.getD_eq_getElem?_getD, List.getElem?_append_right (by omega)]
  congr 2
  omega
theorem getD_append_left (L M : List Nat) (j : Nat) (h : j < L.length) : (L ++ M).getD j 0 = L.getD j 0 := by
  rw [List.getD_eq_getElem?_getD, List.getD_eq_getElem?_getD, List.getElem?_append_left h]
/-- What was put is got. -/
theorem gets_pack {L M : List Nat} {v n : Nat} (hL : ∀ j, L.getD j 0 < 2) (hM : ∀ j, M.getD j 0 < 2) : gets (pack (L ++ bitsTo v n n ++ M)) L.length n = v % 2 ^ n := by
  have hb : ∀ j, (L ++ bitsTo v n n ++ M).getD j 0 < 2 := bits_append (bits_append hL (bitsTo_bit v n n)) hM
  have := gets_congr (bs := pack (L ++ bitsTo v n n ++ M)) (p := L.length) (u := v) (n := n) (fun j hj => by
    rw [bitOf_pack hb, getD_append_left _ _ _ (by rw [List.length_append, bitsTo_length]; omega), getD_append_right, bitsTo_getD _ _ _ _ hj]) n (Nat.le_refl _)
  rw [this]
  simp
/-- A number in two pieces is the same bits as in one. -/
theorem bitsTo_split (v a b : Nat) : bitsTo v (a + b) (a + b) = bitsTo (v / 2 ^ b) a a ++ bitsTo v b b := by
  apply List.ext_getElem?
  intro j
  rcases Nat.lt_or_ge j (a + b) with hj | hj
  · rcases Nat.lt_or_ge j a with ha | ha
    · rw [List.getElem?_append_left (by rw [bitsTo_length]; exact ha)]
      unfold bitsTo
      rw [List.getElem?_map, List.getElem?_map, List.getElem?_range hj, List.getElem?_range ha]
      simp only [Option.map_some]
      rw [Nat.div_div_eq_div_mul, ← Nat.pow_add, show b + (a - 1 - j) = a + b - 1 - j by omega]
    · rw [List.getElem?_append_right (by rw [bitsTo_length]; exact ha), bitsTo_length]
      unfold bitsTo
      rw [List.getElem?_map, List.getElem?_map, List.getElem?_range hj, List.getElem?_range (show j - a < b by omega)]
      simp only [Option.map_some]
      rw [show b - 1 - (j - a) = a + b - 1 - j by omega]
  · rw [List.getElem?_eq_none (by rw [bitsTo_length]; exact hj), List.getElem?_eq_none (by rw [List.length_append, bitsTo_length, bitsTo_length]; exact hj)]
theorem and_mask_u64 (x a : Nat) (hx : x < 18446744073709551616) (ha : a < 64) : bits .and .u64 (x : Int) (((2 ^ a - 1 : Nat) : Int)) = ((x % 2 ^ a : Nat) : Int) := by
  have hp : 2 ^ a ≤ 2 ^ 63 := Nat.pow_le_pow_right (by omega) (by omega)
  rw [u64_and_nat _ _ hx (by omega), Nat.and_two_pow_sub_one_eq_mod]
theorem ofInt_mod (x : Int) : (BitVec.ofInt 64 x).toNat = (x % 18446744073709551616).toNat := by
  rw [BitVec.toNat_ofInt]; rfl
theorem and_31 (x : Int) : bits .and .i64 x 31 = (((x % 32).toNat : Nat) : Int) := by
  show IntKind.i64.wrap (((BitVec.ofInt 64 x) &&& (BitVec.ofInt 64 31)).toNat : Int) = _
  rw [BitVec.toNat_and, ofInt_mod, ofInt_mod]
  rw [show ((31 : Int) % 18446744073709551616).toNat = 2 ^ 5 - 1 by decide, Nat.and_two_pow_sub_one_eq_mod, IntKind.wrap_i64]
  omega
theorem and_127 (x : Int) : bits .and .i64 x 127 = (((x % 128).toNat : Nat) : Int) := by
  show IntKind.i64.wrap (((BitVec.ofInt 64 x) &&& (BitVec.ofInt 64 127)).toNat : Int) = _
  rw [BitVec.toNat_and, ofInt_mod, ofInt_mod]
  rw [show ((127 : Int) % 18446744073709551616).toNat = 2 ^ 7 - 1 by decide, Nat.and_two_pow_sub_one_eq_mod, IntKind.wrap_i64]
  omega
theorem and_511 (x : Int) : bits .and .i64 x 511 = (((x % 512).toNat : Nat) : Int) := by
  show IntKind.i64.wrap (((BitVec.ofInt 64 x) &&& (BitVec.ofInt 64 511)).toNat : Int) = _
  rw [BitVec.toNat_and, ofInt_mod, ofInt_mod]
  rw [show ((511 : Int) % 18446744073709551616).toNat = 2 ^ 9 - 1 by decide, Nat.and_two_pow_sub_one_eq_mod, IntKind.wrap_i64]
  omega
end Go.Proofs.Ytboecnakndpgfaa
