/-
  Plain facts on the check sum: by bits, by quarters of a byte; what a turned burst does. No program.
-/
import Derived.Below
import Derived.Laws.BitsAllLaws
import Derived.Laws.BitsLemmas
namespace Go.Proofs.Ytboecnakndpgfaa.F
def gbit (s : Nat) : Nat := if s % 2 = 1 then s / 2 ^^^ 3988292384 else s / 2
def gN : Nat → Nat → Nat
  | 0, s => s
  | n + 1, s => gN n (gbit s)
theorem gN_add (a b s : Nat) : gN (a + b) s = gN b (gN a s) := by
  induction a generalizing s with
  | zero => rw [Nat.zero_add]; rfl
  | succ a ih => rw [Nat.succ_add]; exact ih (gbit s)
theorem gbit_lt {s : Nat} (h : s < 4294967296) : gbit s < 4294967296 := by
  unfold gbit
  split
  · exact Nat.xor_lt_two_pow (n := 32) (by omega) (by omega)
  · omega
theorem gN_lt (n : Nat) {s : Nat} (h : s < 4294967296) : gN n s < 4294967296 := by
  induction n generalizing s with
  | zero => exact h
  | succ n ih => exact ih (gbit_lt h)
theorem xor4 (a b p : Nat) : a ^^^ b = (a ^^^ p) ^^^ (b ^^^ p) := by
  apply Nat.eq_of_testBit_eq
  intro i
  simp only [Nat.testBit_xor]
  cases a.testBit i <;> cases b.testBit i <;> cases p.testBit i <;> rfl
theorem xor3a (a b p : Nat) : a ^^^ b ^^^ p = (a ^^^ p) ^^^ b := by
  apply Nat.eq_of_testBit_eq
  intro i
  simp only [Nat.testBit_xor]
  cases a.testBit i <;> cases b.testBit i <;> cases p.testBit i <;> rfl
theorem xor_mod2 (a b : Nat) : (a ^^^ b) % 2 = (a % 2 + b % 2) % 2 := by
  have h : (a ^^^ b) % 2 ^ 1 = a % 2 ^ 1 ^^^ b % 2 ^ 1 := Nat.xor_mod_two_pow
  simp only [Nat.pow_one] at h
  rw [h]
  rcases (show a % 2 = 0 ∨ a % 2 = 1 by omega) with e | e <;> rcases (show b % 2 = 0 ∨ b % 2 = 1 by omega) with k | k <;> rw [e, k] <;> rfl
theorem gbit_xor (a b : Nat) : gbit (a ^^^ b) = gbit a ^^^ gbit b := by
  have hm := xor_mod2 a b
  unfold gbit
  rw [Nat.xor_div_two]
  by_cases ha : a % 2 = 1
  · by_cases hb : b % 2 = 1
    · rw [if_neg (by omega), if_pos ha, if_pos hb]; exact xor4 _ _ _
    · rw [if_pos (by omega), if_pos ha, if_neg hb]; exact xor3a _ _ _
  · by_cases hb : b % 2 = 1
    · rw [if_pos (by omega), if_neg ha, if_pos hb]; exact Nat.xor_assoc _ _ _
    · rw [if_neg (by omega), if_neg ha, if_neg hb]
theorem gN_xor (n a b : Nat) : gN n (a ^^^ b) = gN n a ^^^ gN n b := by
  induction n generalizing a b with
  | zero => rfl
  | succ n ih => show gN n (gbit (a ^^^ b)) = _; rw [gbit_xor]; exact ih _ _
theorem gbit_two (x : Nat) : gbit (2 * x) = x := by unfold gbit; rw [if_neg (by omega)]; omega
theorem gN_pow (n x : Nat) : gN n (2 ^ n * x) = x := by
  induction n with
  | zero => show 2 ^ 0 * x = x; omega
  | succ n ih =>
    show gN n (gbit (2 ^ (n + 1) * x)) = x
    rw [Nat.pow_succ, Nat.mul_comm (2 ^ n) 2, Nat.mul_assoc, gbit_two]
    exact ih
theorem join_xor (n t k : Nat) (h : k < 2 ^ n) : 2 ^ n * t ^^^ k = 2 ^ n * t + k := by
  have h1 : (2 ^ n * t ^^^ k) / 2 ^ n = t := by
    rw [Nat.xor_div_two_pow, Nat.mul_div_cancel_left _ (Nat.two_pow_pos n), Nat.div_eq_of_lt h, Nat.xor_zero]
  have h2 : (2 ^ n * t ^^^ k) % 2 ^ n = k := by
    rw [Nat.xor_mod_two_pow, Nat.mul_mod_right, Nat.mod_eq_of_lt h, Nat.zero_xor]
  have h3 := Nat.div_add_mod (2 ^ n * t ^^^ k) (2 ^ n)
  rw [h1, h2] at h3
  exact h3.symm
theorem split_xor (n s : Nat) : s = 2 ^ n * (s / 2 ^ n) ^^^ s % 2 ^ n := by
  rw [join_xor n _ _ (Nat.mod_lt _ (Nat.two_pow_pos n))]
  exact (Nat.div_add_mod s (2 ^ n)).symm
theorem gN_split (n s : Nat) : gN n s = s / 2 ^ n ^^^ gN n (s % 2 ^ n) := by
  have h := split_xor n s
  have h2 : gN n s = gN n (2 ^ n * (s / 2 ^ n) ^^^ s % 2 ^ n) := by rw [← h]
  rw [h2, gN_xor, gN_pow]
/-- What a sum does with four bits. -/
def quart : List Nat := [0, 498536548, 997073096, 651767980, 1994146192, 1802195444, 1303535960, 1342533948, 3988292384, 4027552580, 3604390888, 3412177804, 2607071920, 2262029012, 2685067896, 3183342108]
theorem quart_eq (k : Nat) (h : k < 16) : gN 4 k = quart.getD k 0 := by
  rcases (show k = 0 ∨ k = 1 ∨ k = 2 ∨ k = 3 ∨ k = 4 ∨ k = 5 ∨ k = 6 ∨ k = 7 ∨ k = 8 ∨ k = 9 ∨ k = 10 ∨ k = 11 ∨ k = 12 ∨ k = 13 ∨ k = 14 ∨ k = 15 by omega) with
    rfl | rfl | rfl | rfl | rfl | rfl | rfl | rfl | rfl | rfl | rfl | rfl | rfl | rfl | rfl | rfl <;> decide
theorem gN_four (s : Nat) : s / 16 ^^^ quart.getD (s % 16) 0 = gN 4 s := by
  rw [← quart_eq _ (Nat.mod_lt _ (by omega))]
  exact (gN_split 4 s).symm
/-- The sum's state behind bytes. -/
def crcL : List Nat → Nat → Nat
  | [], s => s
  | b :: l, s => crcL l (gN 8 (s ^^^ b))
def crcS (l : List Nat) : Nat := crcL l 4294967295 ^^^ 4294967295
theorem crcL_append (l m : List Nat) (s : Nat) : crcL (l ++ m) s = crcL m (crcL l s) := by
  induction l generalizing s with
  | nil => rfl
  | cons b l ih => exact ih _
theorem crcL_lt {l : List Nat} {s : Nat} (hl : ∀ b ∈ l, b < 256) (hs : s < 4294967296) : crcL l s < 4294967296 := by
  induction l generalizing s with
  | nil => exact hs
  | cons b l ih =>
    refine ih (fun x hx => hl x (by simp [hx])) (gN_lt 8 ?_)
    have := hl b (by simp)
    exact Nat.xor_lt_two_pow (n := 32) hs (by omega)
theorem crcS_lt {l : List Nat} (hl : ∀ b ∈ l, b < 256) : crcS l < 4294967296 :=
  Nat.xor_lt_two_pow (n := 32) (crcL_lt hl (by omega)) (by omega)
/-- Bytes as a number, the lowest first. -/
def le : List Nat → Nat
  | [] => 0
  | b :: l => b + 256 * le l
theorem le_append (l m : List Nat) : le (l ++ m) = le l + 2 ^ (8 * l.length) * le m := by
  induction l with
  | nil => simp [le]
  | cons b l ih =>
    show b + 256 * le (l ++ m) = b + 256 * le l + _
    rw [ih, List.length_cons, show 8 * (l.length + 1) = 8 * l.length + 8 by omega, Nat.pow_add, show (2 : Nat) ^ 8 = 256 by decide, Nat.mul_add, ← Nat.mul_assoc, Nat.mul_comm 256 (2 ^ (8 * l.length)), Nat.add_assoc]
theorem le_lt {l : List Nat} (hl : ∀ b ∈ l, b < 256) : le l < 2 ^ (8 * l.length) := by
  induction l with
  | nil => simp [le]
  | cons b l ih =>
    have h1 := ih (fun x hx => hl x (by simp [hx]))
    have h2 := hl b (by simp)
    rw [List.length_cons, Nat.mul_add, Nat.pow_add, show (2 : Nat) ^ (8 * 1) = 256 by decide]
    show b + 256 * le l < _
    omega
theorem crcL_le {l : List Nat} (hl : ∀ b ∈ l, b < 256) (s : Nat) : crcL l s = gN (8 * l.length) (s ^^^ le l) := by
  induction l generalizing s with
  | nil => simp [crcL, le, gN]
  | cons b l ih =>
    have h2 := hl b (by simp)
    show crcL l (gN 8 (s ^^^ b)) = gN (8 * (l.length + 1)) (s ^^^ (b + 256 * le l))
    rw [ih (fun x hx => hl x (by simp [hx])), show 8 * (l.length + 1) = 8 + 8 * l.length by omega, gN_add]
    have e : b + 256 * le l = 2 ^ 8 * le l ^^^ b := by rw [join_xor 8 _ _ (by omega)]; omega
    have e2 : gN 8 (2 ^ 8 * le l ^^^ (s ^^^ b)) = gN 8 (s ^^^ b) ^^^ le l := by rw [gN_xor, gN_pow, Nat.xor_comm]
    rw [e, ← Nat.xor_assoc, Nat.xor_comm s (2 ^ 8 * le l), Nat.xor_assoc, e2]
theorem gbit_zero {s : Nat} (hs : s < 4294967296) (h : gbit s = 0) : s = 0 := by
  unfold gbit at h
  split at h
  · next e =>
    have h1 : s / 2 = 3988292384 := by
      have h2 : (s / 2 ^^^ 3988292384) ^^^ 3988292384 = 0 ^^^ 3988292384 := by rw [h]
      rw [Nat.xor_assoc, Nat.xor_self, Nat.xor_zero, Nat.zero_xor] at h2
      exact h2
    omega
  · omega
theorem gN_zero (n : Nat) {s : Nat} (hs : s < 4294967296) (h : gN n s = 0) : s = 0 := by
  induction n generalizing s with
  | zero => exact h
  | succ n ih => exact gbit_zero hs (ih (gbit_lt hs) h)
/-- A burst of at most 32 bits leaves no sum as it was. -/
theorem burst (m at_ by_ : Nat) (hb : by_ < 4294967296) (h : gN m (by_ * 2 ^ at_) = 0) : by_ = 0 := by
  rcases Nat.lt_or_ge m at_ with hm | hm
  · rw [show at_ = m + (at_ - m) by omega, Nat.pow_add, Nat.mul_comm, Nat.mul_assoc, gN_pow] at h
    have := Nat.two_pow_pos (at_ - m)
    rcases Nat.mul_eq_zero.1 h with h | h <;> omega
  · rw [show m = at_ + (m - at_) by omega, gN_add, Nat.mul_comm, gN_pow] at h
    exact gN_zero _ hb h
/-- Two frames of one length that differ by d have both their sums only if gN of d is 0. -/
theorem crc_diff {l l' c c' d : Nat} {m : Nat} (h : 2 ^ m * c ^^^ l = (2 ^ m * c' ^^^ l') ^^^ d)
    (s : gN m (4294967295 ^^^ l) ^^^ 4294967295 = c) (s' : gN m (4294967295 ^^^ l') ^^^ 4294967295 = c') : gN m d = 0 := by
  have e : d = (2 ^ m * c ^^^ l) ^^^ (2 ^ m * c' ^^^ l') := by
    rw [h, Nat.xor_comm, ← Nat.xor_assoc, Nat.xor_self, Nat.zero_xor]
  rw [e, gN_xor, gN_xor, gN_xor, gN_pow, gN_pow, ← s, ← s', gN_xor, gN_xor]
  generalize gN m 4294967295 = a
  generalize gN m l = b
  generalize gN m l' = b'
  apply Nat.eq_of_testBit_eq
  intro i
  simp only [Nat.testBit_xor, Nat.zero_testBit]
  cases a.testBit i <;> cases b.testBit i <;> cases b'.testBit i <;> cases (4294967295 : Nat).testBit i <;> rfl
end Go.Proofs.Ytboecnakndpgfaa.F
