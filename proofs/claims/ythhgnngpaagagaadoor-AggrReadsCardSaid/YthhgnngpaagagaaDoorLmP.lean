/-
  Numbers in eight limbs of 16 bits, plainly. No program.
-/
import Derived.Test.YthhgnngpaagagaaDoorAgA
namespace Go.Proofs.YthhgnngpaagagaaDoor
open Go.RowKit
set_option linter.unusedVariables false
set_option linter.unusedSimpArgs false
def dv (s : Int) : Nat → Int
  | 0 => s
  | i + 1 => dv s i / 65536
def lim (s : Int) (i : Nat) : Int := dv s i % 65536
theorem lim_bd (s : Int) (i : Nat) : 0 ≤ lim s i ∧ lim s i < 65536 := by unfold lim; omega
theorem dv_add (s : Int) (i : Nat) : ∀ j, dv s (i + j) = dv (dv s i) j
  | 0 => rfl
  | j + 1 => by show dv s (i + j) / 65536 = dv (dv s i) j / 65536; rw [dv_add s i j]
theorem dv_four (s : Int) : dv s 4 = hiOf s := by show s / 65536 / 65536 / 65536 / 65536 = s / 18446744073709551616; omega
theorem lim_hi (s : Int) (k : Nat) : lim s (k + 4) = lim (hiOf s) k := by
  unfold lim
  rw [Nat.add_comm k 4, dv_add, dv_four]
theorem lim_mod (x : Int) (k : Nat) (hk : k < 4) : lim (x % 18446744073709551616) k = lim x k := by
  rcases (show k = 0 ∨ k = 1 ∨ k = 2 ∨ k = 3 by omega) with rfl | rfl | rfl | rfl
  · show x % 18446744073709551616 % 65536 = x % 65536; omega
  · show x % 18446744073709551616 / 65536 % 65536 = x / 65536 % 65536; omega
  · show x % 18446744073709551616 / 65536 / 65536 % 65536 = x / 65536 / 65536 % 65536; omega
  · show x % 18446744073709551616 / 65536 / 65536 / 65536 % 65536 = x / 65536 / 65536 / 65536 % 65536; omega
theorem lim_lo (s : Int) (k : Nat) (hk : k < 4) : lim (loOf s) k = lim s k := lim_mod s k hk
theorem shr_dv (x : Int) (k : Nat) (hk : k < 4) : x / 2 ^ (16 * k) = dv x k := by
  rcases (show k = 0 ∨ k = 1 ∨ k = 2 ∨ k = 3 by omega) with rfl | rfl | rfl | rfl
  · show x / 2 ^ 0 = x; simp
  · show x / 2 ^ 16 = x / 65536; rfl
  · show x / 2 ^ 32 = x / 65536 / 65536; omega
  · show x / 2 ^ 48 = x / 65536 / 65536 / 65536; omega
/-- The carry ahead of limb i. -/
def cy (s t : Int) (i : Nat) : Int := dv (s + t) i - dv s i - dv t i
theorem cy_zero (s t : Int) : cy s t 0 = 0 := by show s + t - s - t = 0; omega
theorem plus_step (s t : Int) (i : Nat) : (cy s t i + lim s i + lim t i) % 65536 = lim (s + t) i ∧ (cy s t i + lim s i + lim t i) / 65536 = cy s t (i + 1) := by
  have e : cy s t (i + 1) = dv (s + t) i / 65536 - dv s i / 65536 - dv t i / 65536 := rfl
  rw [e]
  unfold cy lim
  generalize dv (s + t) i = u
  generalize dv s i = a
  generalize dv t i = b
  omega
theorem cy_bd (s t : Int) : ∀ i, 0 ≤ cy s t i ∧ cy s t i ≤ 1
  | 0 => by rw [cy_zero]; omega
  | i + 1 => by
    rw [← (plus_step s t i).2]
    have := cy_bd s t i
    have := lim_bd s i
    have := lim_bd t i
    omega
theorem dv_not (s : Int) : ∀ i, dv (-1 - s) i = -1 - dv s i
  | 0 => rfl
  | i + 1 => by show dv (-1 - s) i / 65536 = -1 - dv s i / 65536; rw [dv_not s i]; omega
theorem lim_not (s : Int) (i : Nat) : lim (-1 - s) i = 65535 - lim s i := by unfold lim; rw [dv_not]; omega
theorem lim_one (i : Nat) : lim 1 i = if i = 0 then 1 else 0 := by
  have h : ∀ j, dv 1 (j + 1) = 0 := by
    intro j
    induction j with
    | zero => rfl
    | succ j ih => show dv 1 (j + 1) / 65536 = 0; rw [ih]; rfl
  cases i with
  | zero => rfl
  | succ j => unfold lim; rw [h j]; rfl
theorem lim_zero (i : Nat) : lim 0 i = 0 := by
  have h : ∀ j, dv 0 j = 0 := by
    intro j
    induction j with
    | zero => rfl
    | succ j ih => show dv 0 j / 65536 = 0; rw [ih]; rfl
  unfold lim
  rw [h]; rfl
theorem lim_cong {s t : Int} (h : s % 340282366920938463463374607431768211456 = t % 340282366920938463463374607431768211456) (i : Nat) (hi : i < 8) : lim s i = lim t i := by
  rcases Nat.lt_or_ge i 4 with h4 | h4
  · rw [← lim_mod s i h4, ← lim_mod t i h4]
    congr 1
    omega
  · obtain ⟨k, rfl⟩ : ∃ k, i = k + 4 := ⟨i - 4, by omega⟩
    rw [lim_hi, lim_hi, ← lim_mod _ k (by omega), ← lim_mod (hiOf t) k (by omega)]
    congr 1
    unfold hiOf
    omega
theorem lim_wrp (x : Int) (i : Nat) (hi : i < 8) : lim (wrp x) i = lim x i := lim_cong (by unfold wrp; omega) i hi
theorem lim_neg {s : Int} (h : S128 s) : 32768 ≤ lim s 7 ↔ s < 0 := by
  rw [show (7 : Nat) = 3 + 4 from rfl, lim_hi]
  have := h.hi
  have e : s < 0 ↔ hiOf s < 0 := hi_neg.symm
  rw [e]
  generalize hiOf s = x at this
  show 32768 ≤ x / 65536 / 65536 / 65536 % 65536 ↔ x < 0
  omega
/-- Numbers with the same limbs are the same. -/
theorem lim_inj {s t : Int} (hs : S128 s) (ht : S128 t) (h : ∀ i, i < 8 → lim s i = lim t i) : s = t := by
  have hq : ∀ x : Int, x % 340282366920938463463374607431768211456 = (((((((lim x 7 * 65536 + lim x 6) * 65536 + lim x 5) * 65536 + lim x 4) * 65536 + lim x 3) * 65536 + lim x 2) * 65536 + lim x 1) * 65536 + lim x 0) := by
    intro x
    have a0 : dv x 0 = dv x 1 * 65536 + lim x 0 := by show x = x / 65536 * 65536 + x % 65536; omega
    have a1 : dv x 1 = dv x 2 * 65536 + lim x 1 := by unfold lim; show dv x 1 = dv x 1 / 65536 * 65536 + dv x 1 % 65536; omega
    have a2 : dv x 2 = dv x 3 * 65536 + lim x 2 := by unfold lim; show dv x 2 = dv x 2 / 65536 * 65536 + dv x 2 % 65536; omega
    have a3 : dv x 3 = dv x 4 * 65536 + lim x 3 := by unfold lim; show dv x 3 = dv x 3 / 65536 * 65536 + dv x 3 % 65536; omega
    have a4 : dv x 4 = dv x 5 * 65536 + lim x 4 := by unfold lim; show dv x 4 = dv x 4 / 65536 * 65536 + dv x 4 % 65536; omega
    have a5 : dv x 5 = dv x 6 * 65536 + lim x 5 := by unfold lim; show dv x 5 = dv x 5 / 65536 * 65536 + dv x 5 % 65536; omega
    have a6 : dv x 6 = dv x 7 * 65536 + lim x 6 := by unfold lim; show dv x 6 = dv x 6 / 65536 * 65536 + dv x 6 % 65536; omega
    have a7 : dv x 7 = dv x 8 * 65536 + lim x 7 := by unfold lim; show dv x 7 = dv x 7 / 65536 * 65536 + dv x 7 % 65536; omega
    have hx : dv x 0 = x := rfl
    have b0 := lim_bd x 0
    have b1 := lim_bd x 1
    have b2 := lim_bd x 2
    have b3 := lim_bd x 3
    have b4 := lim_bd x 4
    have b5 := lim_bd x 5
    have b6 := lim_bd x 6
    have b7 := lim_bd x 7
    rw [hx] at a0
    generalize lim x 0 = c0 at *
    generalize lim x 1 = c1 at *
    generalize lim x 2 = c2 at *
    generalize lim x 3 = c3 at *
    generalize lim x 4 = c4 at *
    generalize lim x 5 = c5 at *
    generalize lim x 6 = c6 at *
    generalize lim x 7 = c7 at *
    omega
  have e1 := hq s
  have e2 := hq t
  rw [h 0 (by omega), h 1 (by omega), h 2 (by omega), h 3 (by omega), h 4 (by omega), h 5 (by omega), h 6 (by omega), h 7 (by omega), ← e2] at e1
  unfold S128 at hs ht
  omega
/-- Eight numbers as an array's cells. -/
theorem f8_get (f : Nat → Int) (i : Nat) (h : i < 8) : (#[.int .i64 (f 0), .int .i64 (f 1), .int .i64 (f 2), .int .i64 (f 3), .int .i64 (f 4), .int .i64 (f 5), .int .i64 (f 6), .int .i64 (f 7)] : Array Value)[i]? = some (.int .i64 (f i)) := by
  rcases (show i = 0 ∨ i = 1 ∨ i = 2 ∨ i = 3 ∨ i = 4 ∨ i = 5 ∨ i = 6 ∨ i = 7 by omega) with rfl | rfl | rfl | rfl | rfl | rfl | rfl | rfl <;> rfl
def updF (f : Nat → Int) (i : Nat) (v : Int) (j : Nat) : Int := if j = i then v else f j
theorem f8_set (f : Nat → Int) (i : Nat) (h : i < 8) (v : Int) : (#[.int .i64 (f 0), .int .i64 (f 1), .int .i64 (f 2), .int .i64 (f 3), .int .i64 (f 4), .int .i64 (f 5), .int .i64 (f 6), .int .i64 (f 7)] : Array Value).setIfInBounds i (.int .i64 v) =
    #[.int .i64 (updF f i v 0), .int .i64 (updF f i v 1), .int .i64 (updF f i v 2), .int .i64 (updF f i v 3), .int .i64 (updF f i v 4), .int .i64 (updF f i v 5), .int .i64 (updF f i v 6), .int .i64 (updF f i v 7)] := by
  rcases (show i = 0 ∨ i = 1 ∨ i = 2 ∨ i = 3 ∨ i = 4 ∨ i = 5 ∨ i = 6 ∨ i = 7 by omega) with rfl | rfl | rfl | rfl | rfl | rfl | rfl | rfl <;> rfl
theorem f8_congr {f g : Nat → Int} (h : ∀ i, i < 8 → f i = g i) : (#[.int .i64 (f 0), .int .i64 (f 1), .int .i64 (f 2), .int .i64 (f 3), .int .i64 (f 4), .int .i64 (f 5), .int .i64 (f 6), .int .i64 (f 7)] : Array Value) =
    #[.int .i64 (g 0), .int .i64 (g 1), .int .i64 (g 2), .int .i64 (g 3), .int .i64 (g 4), .int .i64 (g 5), .int .i64 (g 6), .int .i64 (g 7)] := by
  rw [h 0 (by omega), h 1 (by omega), h 2 (by omega), h 3 (by omega), h 4 (by omega), h 5 (by omega), h 6 (by omega), h 7 (by omega)]
end Go.Proofs.YthhgnngpaagagaaDoor
