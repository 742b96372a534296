/-
  The walk of the law VarintLong.
-/
import Derived.Test.YtgceeihdmhghiaaVar
namespace Go.Proofs.Ytgceeihdmhghiaa
open Go.RowKit
def cnt (v : Nat) : Nat := if v = 0 then 0 else (vput v).length
theorem cnt_zero : cnt 0 = 0 := rfl
theorem cnt_step {v : Nat} (h : 0 < v) : cnt v = cnt (v / 128) + 1 := by
  unfold cnt
  rw [if_neg (by omega)]
  by_cases hv : v < 128
  · rw [vput_small hv, if_pos (by omega)]; rfl
  · rw [vput_big hv, if_neg (by omega)]; rfl
theorem cnt_len (v : Nat) : (vput v).length = cnt (v / 128) + 1 := by
  by_cases h : v = 0
  · subst h; rw [vput_small (by omega)]; rfl
  · rw [← cnt_step (by omega)]; unfold cnt; rw [if_neg h]
set_option maxRecDepth 100000 in
set_option maxHeartbeats 1000000 in
theorem varintLong_core (a0 a1 : Nat) (x y : Nat) (w : World) (hx : x < 18446744073709551616) (hy : y < 18446744073709551616) (hxy : x ≤ y) (hs : (a0 ≤ a1 ∧ x = a0 ∧ y = a1) ∨ (a1 < a0 ∧ x = a1 ∧ y = a0)) :
    Calls Try.prog 3 #[.int .u64 a0, .int .u64 a1] w fun e w' => e = .returned (.bool true) ∧ Below w.heap.size w w' := by
  have HX := Lib.hid (And.intro hx (And.intro hy hxy))
  clear hx hy hxy
  rcases hs with ⟨h1, rfl, rfl⟩ | ⟨h1, rfl, rfl⟩
  all_goals
    go_enter Try.func3, Try.ntmps3
    go_wp2_with fail
    refine (vput_any _ _ _ _ [] _ rfl (Sl.nil _ _ _ _) (Nat.le_refl _) (by simp) (by omega) (by have := HX.out; omega)).mono ?_
    rintro e w1 ⟨v1, rfl, hown1, hb1⟩
    obtain ⟨A1, c1, hv1, -, -⟩ := own_form hown1
    rw [hv1]
    have H1 := Lib.hid hb1
    clear hown1 hb1 hv1
    go_wp2_with fail
    refine (vput_any _ _ _ _ [] _ rfl (Sl.nil _ _ _ _) (Nat.le_refl _) (by simp) (by omega) (by have := HX.out; omega)).mono ?_
    rintro e w2 ⟨v2, rfl, hown2, hb2⟩
    obtain ⟨A2, c2, hv2, -, -⟩ := own_form hown2
    rw [hv2]
    have H2 := Lib.hid (H1.out.trans (hb2.mono H1.out.size))
    clear hown2 hb2 hv2 H1
    simp only [List.nil_append, Int.toNat_natCast]
    have l1 : (vput x).length ≤ (vput y).length := vput_mono y x y HX.out.2.2 (Nat.le_refl _)
    have l2 : (vput y).length ≤ 10 := vput_len10 HX.out.2.1
    have l3 := vput_pos x
    have l4 := cnt_len y
    obtain ⟨p, hp⟩ : ∃ p, p = (vput x).length := ⟨_, rfl⟩
    obtain ⟨q, hq⟩ : ∃ q, q = (vput y).length := ⟨_, rfl⟩
    rw [← hp] at l1 l3
    rw [← hq] at l1 l2 l4
    rw [← hp, ← hq]
    have HQ := Lib.hid l4
    clear hp hq l4
    go_wp2_with fail
    go_loop [7, 8] (fun n s => ∃ (v k : Nat), v ≤ y ∧ s = .int .u64 v ∧ n = .int .i64 k ∧ k + cnt v = q) (fun _ s => (intOf s).toNat)
    case atStart => exact ⟨y / 128, 1, by omega, rfl, rfl, by rw [HQ.out]; omega⟩
    case round =>
      obtain ⟨v, k, hvy, rfl, rfl, hk⟩ := hrel
      have hk1 : k ≤ q := by omega
      have HK := Lib.hid hk
      clear hk
      by_cases hv : 0 < v
      · go_wp2_with fail
        go_round
        case rel => exact ⟨v / 128, k + 1, by omega, rfl, by go_num, by have := HK.out; rw [cnt_step hv] at this; omega⟩
        case measure => simp [intOf]; omega
      · obtain rfl : v = 0 := by omega
        obtain rfl : k = q := by have := HK.out; rw [cnt_zero] at this; omega
        go_wp2_with fail
        go_ret
        exact ⟨rfl, H2.out⟩
theorem varintLong_walk (a0 a1 : Int) (w : World) (w0 : (Lit.int .u64 a0).wf = true) (w1 : (Lit.int .u64 a1).wf = true) :
    Calls Try.prog 3 #[.int .u64 a0, .int .u64 a1] w fun e w' => e = .returned (.bool true) ∧ Below w.heap.size w w' := by
  obtain ⟨h0, h1⟩ := bounds_u64 w0
  obtain ⟨h2, h3⟩ := bounds_u64 w1
  obtain ⟨a, rfl⟩ := Int.eq_ofNat_of_zero_le h0
  obtain ⟨b, rfl⟩ := Int.eq_ofNat_of_zero_le h2
  by_cases h : a ≤ b
  · exact varintLong_core a b a b w (by omega) (by omega) h (.inl ⟨h, rfl, rfl⟩)
  · exact varintLong_core a b b a w (by omega) (by omega) (by omega) (.inr ⟨by omega, rfl, rfl⟩)
end Go.Proofs.Ytgceeihdmhghiaa
