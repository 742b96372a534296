/-
  Plain facts on marks: no walk.
-/
import Derived.Test.YtgceeihdmhghiaaDoorWater
import Derived.Test.YtgceeihdmhghiaaDoorMask
namespace Go.Proofs.YtgceeihdmhghiaaDoor
/-- The greatest of the first k times (0 if there is none). -/
def mxf (f : Nat → Int) : Nat → Int
  | 0 => 0
  | k + 1 => max (mxf f k) (f k)
theorem mxf_ge (f : Nat → Int) (k j : Nat) (h : j < k) : f j ≤ mxf f k := by
  induction k with
  | zero => omega
  | succ k ih =>
    show f j ≤ max (mxf f k) (f k)
    rcases Nat.lt_or_ge j k with h' | h'
    · have := ih h'; omega
    · obtain rfl : j = k := by omega
      omega
theorem mxf_nonneg (f : Nat → Int) (k : Nat) : 0 ≤ mxf f k := by
  induction k with
  | zero => exact Int.le_refl _
  | succ k ih => show 0 ≤ max (mxf f k) (f k); omega
theorem mxf_le (f : Nat → Int) (k : Nat) (b : Int) (hb : 0 ≤ b) (h : ∀ j, j < k → f j ≤ b) : mxf f k ≤ b := by
  induction k with
  | zero => exact hb
  | succ k ih =>
    have h1 := ih (fun j hj => h j (by omega))
    have h2 := h k (by omega)
    show max (mxf f k) (f k) ≤ b
    omega
theorem mxf_rev (f : Nat → Int) (n : Nat) : mxf (fun j => f (n - 1 - j)) n = mxf f n := by
  apply Int.le_antisymm
  · exact mxf_le _ _ _ (mxf_nonneg _ _) (fun j hj => mxf_ge f n (n - 1 - j) (by omega))
  · refine mxf_le _ _ _ (mxf_nonneg _ _) (fun j hj => ?_)
    have := mxf_ge (fun j => f (n - 1 - j)) n (n - 1 - j) (by omega)
    rwa [show n - 1 - (n - 1 - j) = j by omega] at this
theorem noteS_mx (f : Nat → Int) (hf : ∀ j, 0 ≤ f j) (k : Nat) : noteS false 0 f k = (decide (0 < k), mxf f k) := by
  induction k with
  | zero => rfl
  | succ k ih =>
    show (if (!(noteS false 0 f k).1 || decide ((noteS false 0 f k).2 < f k)) = true then (true, f k) else noteS false 0 f k) = (decide (0 < k + 1), max (mxf f k) (f k))
    rw [ih]
    have h0 := hf k
    rcases Nat.eq_zero_or_pos k with hk | hk
    · subst hk
      have : mxf f 0 = 0 := rfl
      rw [this, if_pos (by simp)]
      simp
      omega
    · by_cases hlt : mxf f k < f k
      · rw [if_pos (by simp [hlt])]
        simp
        omega
      · rw [if_neg (by simp [hlt]; omega)]
        simp [hk]
        omega
theorem noteS_one (s : Bool) (l : Int) (f : Nat → Int) (k : Nat) : noteS (noteS s l f k).1 (noteS s l f k).2 (fun _ => f k) 1 = noteS s l f (k + 1) := rfl
theorem isTime_small {t : Int} (h0 : -1152921504606846976 ≤ t) (h1 : t ≤ 1152921504606846976) : isTimeB t = true := by unfold isTimeB; simp [h0, h1]
theorem noteOk_true {f : Nat → Int} (hf : ∀ j, -1152921504606846976 ≤ f j ∧ f j ≤ 1152921504606846976) (k : Nat) : noteOk true f k = true := by
  induction k with
  | zero => rfl
  | succ k ih => show (noteOk true f k && isTimeB (f k)) = true; rw [ih, isTime_small (hf k).1 (hf k).2]; rfl
theorem atV_ok {s : Bool} {l g : Int} (h : rightB s l g = true) (hs : s = true) (hl : -1152921504606846976 ≤ l - g) : atV s l g = l - g ∧ atB s l g = true := by
  subst hs
  unfold atV atB
  rw [h]
  exact ⟨by show (if _ then max (l - g) _ else _) = _; rw [if_pos (by decide)]; omega, rfl⟩
theorem atV_none {l g : Int} : atV false l g = 0 ∧ atB false l g = false := by
  unfold atV atB
  simp
theorem late_one (wm t : Int) : lateR true wm (fun _ => t) 1 0 = if t < wm then 0 else -1 := by
  show (if (true && decide (t < wm)) = true then ((0 : Nat) : Int) else -1) = _
  by_cases h : t < wm <;> simp [h]
theorem late_none (wm t : Int) : lateR false wm (fun _ => t) 1 0 = -1 := rfl
def wasV (f : Nat → Int) (g : Int) (k : Nat) : Int := if k = 0 then -4611686018427387904 else mxf f k - g
def lateV (f : Nat → Int) (g t : Int) (k : Nat) : Bool := if k = 0 then false else decide (t < mxf f k - g)
end Go.Proofs.YtgceeihdmhghiaaDoor
