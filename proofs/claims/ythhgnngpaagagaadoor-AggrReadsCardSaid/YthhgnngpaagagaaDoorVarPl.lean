/-
  Plain facts on numbers of seven bits a byte: no program.
-/
import Derived.Below
import Derived.Laws.BitsAllLaws
import Derived.Laws.BitsLemmas
namespace Go.Proofs.YthhgnngpaagagaaDoor
/-- The bytes of a number. -/
def vput (u : Nat) : List Nat := if u < 128 then [u] else (u % 128 + 128) :: vput (u / 128)
termination_by u
decreasing_by omega
theorem vput_small {u : Nat} (h : u < 128) : vput u = [u] := by rw [vput, if_pos h]
theorem vput_big {u : Nat} (h : ¬ u < 128) : vput u = (u % 128 + 128) :: vput (u / 128) := by rw [vput, if_neg h]
theorem vput_byte (u : Nat) : ∀ b ∈ vput u, b < 256 := by
  induction u using vput.induct with
  | case1 u h => rw [vput_small h]; simp; omega
  | case2 u h ih => rw [vput_big h]; intro b hb; rcases List.mem_cons.1 hb with rfl | hb; omega; exact ih b hb
theorem vput_len (k : Nat) : ∀ u, u < 128 ^ k → 0 < k → (vput u).length ≤ k := by
  induction k with
  | zero => intro _ _ h; omega
  | succ k ih =>
    intro u hu _
    by_cases h : u < 128
    · rw [vput_small h]; simp
    · rw [vput_big h, List.length_cons]
      have h1 : u / 128 < 128 ^ k := by rw [Nat.div_lt_iff_lt_mul (by omega)]; rw [Nat.pow_succ] at hu; exact hu
      have hk : 0 < k := by
        rcases Nat.eq_zero_or_pos k with h0 | h0
        · subst h0; simp at h1; omega
        · exact h0
      have := ih _ h1 hk
      omega
theorem vput_len10 {u : Nat} (h : u < 18446744073709551616) : (vput u).length ≤ 10 := vput_len 10 u (by omega) (by omega)
theorem vput_pos (u : Nat) : 0 < (vput u).length := by
  by_cases h : u < 128
  · rw [vput_small h]; simp
  · rw [vput_big h]; simp
theorem vput_mono (n : Nat) : ∀ a b, a ≤ b → b ≤ n → (vput a).length ≤ (vput b).length := by
  induction n with
  | zero => intro a b h1 h2; have h3 : a = b := by omega
            rw [h3]; exact Nat.le_refl _
  | succ n ih =>
    intro a b h1 h2
    by_cases ha : a < 128
    · rw [vput_small ha]; have := vput_pos b; simp; omega
    · rw [vput_big ha, vput_big (show ¬ b < 128 by omega), List.length_cons, List.length_cons]
      have := ih (a / 128) (b / 128) (by omega) (by omega)
      omega
theorem vor_step (u : Nat) : bits .or .u8 (IntKind.u8.wrap (u : Int)) 128 = ((u % 128 + 128 : Nat) : Int) := by
  rw [IntKind.wrap_u8', show (u : Int) % 256 = ((u % 256 : Nat) : Int) from by omega, show (128 : Int) = ((128 : Nat) : Int) from rfl, u8_or_nat _ _ (by omega) (by omega)]
  have key : ∀ x : Fin 256, (x.val ||| 128) = x.val % 128 + 128 := by decide +kernel
  have := key ⟨u % 256, Nat.mod_lt _ (by omega)⟩
  simp only at this
  rw [this]
  omega
theorem vor_step2 (u : Nat) : bits .or .u8 ((u : Int) % 256) 128 = ((u % 128 + 128 : Nat) : Int) := by
  rw [← vor_step, IntKind.wrap_u8']
end Go.Proofs.YthhgnngpaagagaaDoor
