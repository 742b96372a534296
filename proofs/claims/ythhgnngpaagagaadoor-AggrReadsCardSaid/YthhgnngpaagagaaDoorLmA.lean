/-
  The contracts of tidemillref07's Limbs, Negative, Plus, Minus. (Printed by mk.py.)
-/
import Derived.Test.YthhgnngpaagagaaDoorLmP
import Derived.Test.YthhgnngpaagagaaDoorAgJ
import Derived.WalkKit
import Derived.WalkSpells
import Derived.WalkLawsBesides
namespace Go.Proofs.YthhgnngpaagagaaDoor
open Go.RowKit
set_option linter.unusedVariables false
set_option linter.unusedSimpArgs false
def LimPost (s : Int) (w : World) (e : Ending) (w' : World) : Prop := e = .returned (.agg #[.int .i64 (lim (s) 0), .int .i64 (lim (s) 1), .int .i64 (lim (s) 2), .int .i64 (lim (s) 3), .int .i64 (lim (s) 4), .int .i64 (lim (s) 5), .int .i64 (lim (s) 6), .int .i64 (lim (s) 7)]) ∧ Below w.heap.size w w'
def limF (s : Int) (k : Nat) (i : Nat) : Int := if i < k ∨ (4 ≤ i ∧ i < 4 + k) then lim s i else 0
theorem limF_step (s : Int) (k : Nat) (hk : k < 4) : ∀ i, i < 8 → updF (updF (limF s k) k (lim s k)) (k + 4) (lim s (k + 4)) i = limF s (k + 1) i := fun i hi => by
  unfold updF limF
  by_cases h1 : i = k + 4
  · subst h1
    rw [if_pos rfl, if_pos (by omega)]
  · rw [if_neg h1]
    by_cases h2 : i = k
    · subst h2
      rw [if_pos rfl, if_pos (by omega)]
    · rw [if_neg h2]
      by_cases h3 : i < k ∨ (4 ≤ i ∧ i < 4 + k)
      · rw [if_pos h3, if_pos (by omega)]
      · rw [if_neg h3, if_neg (by omega)]
theorem limF_end (s : Int) : ∀ i, i < 8 → limF s 4 i = lim s i := fun i hi => by unfold limF; rw [if_pos (by omega)]
set_option maxRecDepth 100000 in
set_option maxHeartbeats 4000000 in
theorem limbs_any (s : Int) (hs : S128 s) (w : World) : Calls Tryd.prog 18 #[.int .i64 (hiOf s), .int .u64 (loOf s)] w (LimPost s w) := by
  obtain ⟨x, hx⟩ : ∃ x, x = w.heap.size := ⟨_, rfl⟩
  have o0 := Own.own2 w hx 33 #[.int .i64 ((limF s 0) 0), .int .i64 ((limF s 0) 1), .int .i64 ((limF s 0) 2), .int .i64 ((limF s 0) 3), .int .i64 ((limF s 0) 4), .int .i64 ((limF s 0) 5), .int .i64 ((limF s 0) 6), .int .i64 ((limF s 0) 7)] 33 #[.int .i64 ((limF s 0) 0), .int .i64 ((limF s 0) 1), .int .i64 ((limF s 0) 2), .int .i64 ((limF s 0) 3), .int .i64 ((limF s 0) 4), .int .i64 ((limF s 0) 5), .int .i64 ((limF s 0) 6), .int .i64 ((limF s 0) 7)]
  have hh := hs.hi
  have hl0 := loOf_nonneg s
  have hl1 := loOf_lt s
  obtain ⟨h, hhe⟩ : ∃ h, h = hiOf s % 18446744073709551616 := ⟨_, rfl⟩
  have hw1 : IntKind.u64.wrap (hiOf s) = h := by rw [IntKind.wrap_u64]; exact hhe.symm
  have HO := Lib.hid (And.intro hx (And.intro o0 (And.intro hl0 (And.intro hl1 hhe))))
  clear hx o0 hh hhe
  go_enter Tryd.func18, Tryd.ntmps18
  go_wp2_with fail
  rw [← HO.out.1]
  clear hw1
  go_loopw [7] (fun i wr => ∃ (k : Nat) (f : Nat → Int), k ≤ 4 ∧ i = .int .i64 k ∧ (∀ j, j < 8 → f j = limF s k j) ∧ Own w [(x, 33, #[.int .i64 ((limF s 0) 0), .int .i64 ((limF s 0) 1), .int .i64 ((limF s 0) 2), .int .i64 ((limF s 0) 3), .int .i64 ((limF s 0) 4), .int .i64 ((limF s 0) 5), .int .i64 ((limF s 0) 6), .int .i64 ((limF s 0) 7)]), (x + 1, 33, #[.int .i64 (f 0), .int .i64 (f 1), .int .i64 (f 2), .int .i64 (f 3), .int .i64 (f 4), .int .i64 (f 5), .int .i64 (f 6), .int .i64 (f 7)])] wr) (fun i _ => 4 - (intOf i).toNat)
  case atStart => exact ⟨0, limF s 0, Nat.zero_le _, rfl, fun _ _ => rfl, HO.out.2.1⟩
  case round =>
    obtain ⟨k, f, hk, rfl, hf, hS⟩ := hrel
    by_cases hlt : k < 4
    · have z0 : wr.cell? ⟨x + 1, k, none⟩ = some (.int .i64 (f k)) := by rw [(hS.get 1 rfl).cell k]; exact f8_get f k (by omega)
      have z1 : wr.cell? ⟨x + 1, k + 4, none⟩ = some (.int .i64 (f (k + 4))) := by rw [(hS.get 1 rfl).cell (k + 4)]; exact f8_get f (k + 4) (by omega)
      have zf := hS.free 1 rfl
      have l1 := lim_bd s k
      have l2 := lim_bd s (k + 4)
      have e1 : (loOf s / 2 ^ (16 * k)).tmod 65536 = lim s k := by
        rw [shr_dv _ k hlt, ← lim_lo s k hlt, Int.tmod_eq_emod_of_nonneg]
        · rfl
        · rw [← shr_dv _ k hlt]; exact Int.ediv_nonneg HO.out.2.2.1 (Int.le_of_lt (Int.pow_pos (by omega)))
      have e2 : (h / 2 ^ (16 * k)).tmod 65536 = lim s (k + 4) := by
        rw [shr_dv _ k hlt, lim_hi, ← lim_mod (hiOf s) k hlt, ← HO.out.2.2.2.2, Int.tmod_eq_emod_of_nonneg]
        · rfl
        · rw [← shr_dv _ k hlt]; exact Int.ediv_nonneg (by rw [HO.out.2.2.2.2]; omega) (Int.le_of_lt (Int.pow_pos (by omega)))
      have e3 : wrap64 (lim s k) = lim s k := by unfold wrap64; omega
      have e4 : wrap64 (lim s (k + 4)) = lim s (k + 4) := by unfold wrap64; omega
      have hst := (hS.set 1 k rfl (.int .i64 (lim s k))).set 1 (k + 4) rfl (.int .i64 (lim s (k + 4)))
      rw [f8_set f k (by omega), f8_set _ (k + 4) (by omega)] at hst
      have HK := Lib.hid (And.intro hf hst)
      clear hf hst hS
      go_wp2_with fail
      go_roundw
      case rel =>
        refine ⟨k + 1, updF (updF f k (lim s k)) (k + 4) (lim s (k + 4)), by omega, by go_num, fun j hj => ?_, HK.out.2⟩
        rw [← limF_step s k hlt j hj]
        unfold updF
        rw [HK.out.1 j hj]
      case measure => simp [intOf]; omega
    · obtain rfl : k = 4 := by omega
      rw [f8_congr (fun i hi => (hf i hi).trans (limF_end s i hi))] at hS
      have z0_0 := hS.cell 0 0 rfl rfl; have z0_1 := hS.cell 0 1 rfl rfl; have z0_2 := hS.cell 0 2 rfl rfl; have z0_3 := hS.cell 0 3 rfl rfl; have z0_4 := hS.cell 0 4 rfl rfl; have z0_5 := hS.cell 0 5 rfl rfl; have z0_6 := hS.cell 0 6 rfl rfl; have z0_7 := hS.cell 0 7 rfl rfl; have z1_0 := hS.cell 1 0 rfl rfl; have z1_1 := hS.cell 1 1 rfl rfl; have z1_2 := hS.cell 1 2 rfl rfl; have z1_3 := hS.cell 1 3 rfl rfl; have z1_4 := hS.cell 1 4 rfl rfl; have z1_5 := hS.cell 1 5 rfl rfl; have z1_6 := hS.cell 1 6 rfl rfl; have z1_7 := hS.cell 1 7 rfl rfl
      have zf := hS.free 0 rfl
      have HP := Lib.hid (Own.setFrom_own [.int .i64 (lim (s) 0), .int .i64 (lim (s) 1), .int .i64 (lim (s) 2), .int .i64 (lim (s) 3), .int .i64 (lim (s) 4), .int .i64 (lim (s) 5), .int .i64 (lim (s) 6), .int .i64 (lim (s) 7)] 0 wr _ hS).bel
      clear hS hf
      go_wp2_with fail
      exact bodyPost_ret (v := .agg #[.int .i64 (lim (s) 0), .int .i64 (lim (s) 1), .int .i64 (lim (s) 2), .int .i64 (lim (s) 3), .int .i64 (lim (s) 4), .int .i64 (lim (s) 5), .int .i64 (lim (s) 6), .int .i64 (lim (s) 7)]) (by simp [results, Tryd.results18, go_sem, z0_0, z0_1, z0_2, z0_3, z0_4, z0_5, z0_6, z0_7]) rfl ⟨rfl, HP.out⟩
set_option maxRecDepth 100000 in
set_option maxHeartbeats 1000000 in
theorem negative_any (s : Int) (hs : S128 s) (w : World) : Calls Tryd.prog 47 #[.agg #[.int .i64 (lim (s) 0), .int .i64 (lim (s) 1), .int .i64 (lim (s) 2), .int .i64 (lim (s) 3), .int .i64 (lim (s) 4), .int .i64 (lim (s) 5), .int .i64 (lim (s) 6), .int .i64 (lim (s) 7)]] w fun e w' => e = .returned (.bool (decide (s < 0))) ∧ Below w.heap.size w w' := by
  have hd : decide (32768 ≤ lim s 7) = decide (s < 0) := by simp [lim_neg hs]
  have hb : Below w.heap.size w (w.alloc (.cells #[.int .i64 (lim (s) 0), .int .i64 (lim (s) 1), .int .i64 (lim (s) 2), .int .i64 (lim (s) 3), .int .i64 (lim (s) 4), .int .i64 (lim (s) 5), .int .i64 (lim (s) 6), .int .i64 (lim (s) 7)] 33)) := (Below.refl _ _).alloc (Nat.le_refl _) _
  have HB := Lib.hid hb
  clear hb
  go_enter Tryd.func47, Tryd.ntmps47
  go_wp2_with fail
  go_ret
  exact ⟨rfl, HB.out⟩
def PlusF (f : Nat → Int) (s t : Int) (k : Nat) : Prop := ∀ j, j < 8 → f j = if j < k then lim (s + t) j else 0
set_option maxRecDepth 100000 in
set_option maxHeartbeats 4000000 in
theorem rplus_any (s t : Int) (w : World) : Calls Tryd.prog 57 #[.agg #[.int .i64 (lim (s) 0), .int .i64 (lim (s) 1), .int .i64 (lim (s) 2), .int .i64 (lim (s) 3), .int .i64 (lim (s) 4), .int .i64 (lim (s) 5), .int .i64 (lim (s) 6), .int .i64 (lim (s) 7)], .agg #[.int .i64 (lim (t) 0), .int .i64 (lim (t) 1), .int .i64 (lim (t) 2), .int .i64 (lim (t) 3), .int .i64 (lim (t) 4), .int .i64 (lim (t) 5), .int .i64 (lim (t) 6), .int .i64 (lim (t) 7)]] w (LimPost (s + t) w) := by
  obtain ⟨x, hx⟩ : ∃ x, x = w.heap.size := ⟨_, rfl⟩
  have o0 := Own.own4 w hx 33 #[.int .i64 (lim (s) 0), .int .i64 (lim (s) 1), .int .i64 (lim (s) 2), .int .i64 (lim (s) 3), .int .i64 (lim (s) 4), .int .i64 (lim (s) 5), .int .i64 (lim (s) 6), .int .i64 (lim (s) 7)] 33 #[.int .i64 (lim (t) 0), .int .i64 (lim (t) 1), .int .i64 (lim (t) 2), .int .i64 (lim (t) 3), .int .i64 (lim (t) 4), .int .i64 (lim (t) 5), .int .i64 (lim (t) 6), .int .i64 (lim (t) 7)] 33 #[.int .i64 0, .int .i64 0, .int .i64 0, .int .i64 0, .int .i64 0, .int .i64 0, .int .i64 0, .int .i64 0] 33 #[.int .i64 0, .int .i64 0, .int .i64 0, .int .i64 0, .int .i64 0, .int .i64 0, .int .i64 0, .int .i64 0]
  have HO := Lib.hid (And.intro hx o0)
  clear hx o0
  go_enter Tryd.func57, Tryd.ntmps57
  go_wp2_with fail
  rw [← HO.out.1]
  go_loopw [6, 7] (fun c i wr => ∃ (k : Nat) (f : Nat → Int), k ≤ 8 ∧ i = .int .i64 k ∧ c = .int .i64 (cy s t k) ∧ PlusF f s t k ∧ Own w [(x, 33, #[.int .i64 (lim (s) 0), .int .i64 (lim (s) 1), .int .i64 (lim (s) 2), .int .i64 (lim (s) 3), .int .i64 (lim (s) 4), .int .i64 (lim (s) 5), .int .i64 (lim (s) 6), .int .i64 (lim (s) 7)]), (x + 1, 33, #[.int .i64 (lim (t) 0), .int .i64 (lim (t) 1), .int .i64 (lim (t) 2), .int .i64 (lim (t) 3), .int .i64 (lim (t) 4), .int .i64 (lim (t) 5), .int .i64 (lim (t) 6), .int .i64 (lim (t) 7)]), (x + 1 + 1, 33, #[.int .i64 0, .int .i64 0, .int .i64 0, .int .i64 0, .int .i64 0, .int .i64 0, .int .i64 0, .int .i64 0]), (x + 1 + 1 + 1, 33, #[.int .i64 (f 0), .int .i64 (f 1), .int .i64 (f 2), .int .i64 (f 3), .int .i64 (f 4), .int .i64 (f 5), .int .i64 (f 6), .int .i64 (f 7)])] wr) (fun _ i _ => 8 - (intOf i).toNat)
  case atStart => exact ⟨0, fun _ => 0, Nat.zero_le _, rfl, by rw [cy_zero], fun j hj => by rw [if_neg (Nat.not_lt_zero _)], HO.out.2⟩
  case round =>
    obtain ⟨k, f, hk, rfl, rfl, hf, hS⟩ := hrel
    by_cases hlt : k < 8
    · have HC := Lib.hid (show ∀ w', Own w [(x, 33, #[.int .i64 (lim (s) 0), .int .i64 (lim (s) 1), .int .i64 (lim (s) 2), .int .i64 (lim (s) 3), .int .i64 (lim (s) 4), .int .i64 (lim (s) 5), .int .i64 (lim (s) 6), .int .i64 (lim (s) 7)]), (x + 1, 33, #[.int .i64 (lim (t) 0), .int .i64 (lim (t) 1), .int .i64 (lim (t) 2), .int .i64 (lim (t) 3), .int .i64 (lim (t) 4), .int .i64 (lim (t) 5), .int .i64 (lim (t) 6), .int .i64 (lim (t) 7)]), (x + 1 + 1, 33, #[.int .i64 0, .int .i64 0, .int .i64 0, .int .i64 0, .int .i64 0, .int .i64 0, .int .i64 0, .int .i64 0]), (x + 1 + 1 + 1, 33, #[.int .i64 (f 0), .int .i64 (f 1), .int .i64 (f 2), .int .i64 (f 3), .int .i64 (f 4), .int .i64 (f 5), .int .i64 (f 6), .int .i64 (f 7)])] w' → w'.cell? ⟨x, k, none⟩ = some (.int .i64 (lim s k)) ∧ w'.cell? ⟨x + 1, k, none⟩ = some (.int .i64 (lim t k)) from fun w' h => ⟨by rw [(h.get 0 rfl).cell k]; exact f8_get (lim s) k hlt, by rw [(h.get 1 rfl).cell k]; exact f8_get (lim t) k hlt⟩)
      have c0 := cy_bd s t k
      have a0 := lim_bd s k
      have b0 := lim_bd t k
      obtain ⟨p1, p2⟩ := plus_step s t k
      have HK := Lib.hid hf
      have HS := Lib.hid hS
      clear hf hS
      generalize cy s t k = c at *
      generalize hA : lim s k = A at *
      generalize hB : lim t k = B at *
      clear hA hB
      go_upto_region 6 with (fail)
      have e1 : wrap64 (c + A) = c + A := by unfold wrap64; omega
      have e2 : wrap64 (c + A + B) = c + A + B := by unfold wrap64; omega
      have e1' : IntKind.i64.wrap (c + A) = c + A := IntWalk.i64_in _ (by omega)
      have e2' : IntKind.i64.wrap (c + A + B) = c + A + B := IntWalk.i64_in _ (by omega)
      have hS : (Own w [(x, 33, #[.int .i64 (lim (s) 0), .int .i64 (lim (s) 1), .int .i64 (lim (s) 2), .int .i64 (lim (s) 3), .int .i64 (lim (s) 4), .int .i64 (lim (s) 5), .int .i64 (lim (s) 6), .int .i64 (lim (s) 7)]), (x + 1, 33, #[.int .i64 (lim (t) 0), .int .i64 (lim (t) 1), .int .i64 (lim (t) 2), .int .i64 (lim (t) 3), .int .i64 (lim (t) 4), .int .i64 (lim (t) 5), .int .i64 (lim (t) 6), .int .i64 (lim (t) 7)]), (x + 1 + 1, 33, #[.int .i64 0, .int .i64 0, .int .i64 0, .int .i64 0, .int .i64 0, .int .i64 0, .int .i64 0, .int .i64 0]), (x + 1 + 1 + 1, 33, #[.int .i64 (f 0), .int .i64 (f 1), .int .i64 (f 2), .int .i64 (f 3), .int .i64 (f 4), .int .i64 (f 5), .int .i64 (f 6), .int .i64 (f 7)])]) (wr.drew) := HS.out.drew
      refine reg_start (Own w [(x, 33, #[.int .i64 (lim (s) 0), .int .i64 (lim (s) 1), .int .i64 (lim (s) 2), .int .i64 (lim (s) 3), .int .i64 (lim (s) 4), .int .i64 (lim (s) 5), .int .i64 (lim (s) 6), .int .i64 (lim (s) 7)]), (x + 1, 33, #[.int .i64 (lim (t) 0), .int .i64 (lim (t) 1), .int .i64 (lim (t) 2), .int .i64 (lim (t) 3), .int .i64 (lim (t) 4), .int .i64 (lim (t) 5), .int .i64 (lim (t) 6), .int .i64 (lim (t) 7)]), (x + 1 + 1, 33, #[.int .i64 0, .int .i64 0, .int .i64 0, .int .i64 0, .int .i64 0, .int .i64 0, .int .i64 0, .int .i64 0]), (x + 1 + 1 + 1, 33, #[.int .i64 (f 0), .int .i64 (f 1), .int .i64 (f 2), .int .i64 (f 3), .int .i64 (f 4), .int .i64 (f 5), .int .i64 (f 6), .int .i64 (f 7)])]) (by kernel_rfl) hS ?_
      refine reg_take (i := 0) (v := ?_) rfl (by kernel_rfl) (by kernel_rfl) (by kernel_rfl) (fun _ _ _ h => h) (Or.inl ⟨by kernel_rfl, ?_⟩) hS ?_
      rotate_left
      · (intro w' hSw; obtain ⟨t0, t1⟩ := HC.out w' hSw; go_simp <;> with_reducible rfl)
      try simp only [List.getElem_toArray, List.getElem_cons_succ, List.getElem_cons_zero, Act.put, List.setIfInBounds_toArray, List.set_cons_zero, List.set_cons_succ]
      refine reg_take (i := 1) (v := ?_) rfl (by kernel_rfl) (by kernel_rfl) (by kernel_rfl) (fun _ _ _ h => h) (Or.inl ⟨by kernel_rfl, ?_⟩) hS ?_
      rotate_left
      · (intro w' hSw; obtain ⟨t0, t1⟩ := HC.out w' hSw; go_simp <;> with_reducible rfl)
      try simp only [List.getElem_toArray, List.getElem_cons_succ, List.getElem_cons_zero, Act.put, List.setIfInBounds_toArray, List.set_cons_zero, List.set_cons_succ]
      refine reg_take (i := 2) (v := ?_) rfl (by kernel_rfl) (by kernel_rfl) (by kernel_rfl) (fun _ _ _ h => h) (Or.inl ⟨by kernel_rfl, ?_⟩) hS ?_
      rotate_left
      · (intro w' hSw; obtain ⟨t0, t1⟩ := HC.out w' hSw; go_simp <;> with_reducible rfl)
      try simp only [List.getElem_toArray, List.getElem_cons_succ, List.getElem_cons_zero, Act.put, List.setIfInBounds_toArray, List.set_cons_zero, List.set_cons_succ]
      refine reg_take (i := 3) (v := ?_) rfl (by kernel_rfl) (by kernel_rfl) (by kernel_rfl) (fun _ _ _ h => h) (Or.inl ⟨by kernel_rfl, ?_⟩) hS ?_
      rotate_left
      · (intro w' hSw; obtain ⟨t0, t1⟩ := HC.out w' hSw; go_simp <;> with_reducible rfl)
      try simp only [List.getElem_toArray, List.getElem_cons_succ, List.getElem_cons_zero, Act.put, List.setIfInBounds_toArray, List.set_cons_zero, List.set_cons_succ]
      refine reg_take (i := 4) (v := ?_) rfl (by kernel_rfl) (by kernel_rfl) (by kernel_rfl) (fun _ _ _ h => h) (Or.inl ⟨by kernel_rfl, ?_⟩) hS ?_
      rotate_left
      · (intro w' hSw; obtain ⟨t0, t1⟩ := HC.out w' hSw; go_simp <;> with_reducible rfl)
      try simp only [List.getElem_toArray, List.getElem_cons_succ, List.getElem_cons_zero, Act.put, List.setIfInBounds_toArray, List.set_cons_zero, List.set_cons_succ]
      refine reg_take (i := 5) (v := ?_) rfl (by kernel_rfl) (by kernel_rfl) (by kernel_rfl) (fun _ _ _ h => h) (Or.inl ⟨by kernel_rfl, ?_⟩) hS ?_
      rotate_left
      · (intro w' hSw; obtain ⟨t0, t1⟩ := HC.out w' hSw; go_simp <;> with_reducible rfl)
      try simp only [List.getElem_toArray, List.getElem_cons_succ, List.getElem_cons_zero, Act.put, List.setIfInBounds_toArray, List.set_cons_zero, List.set_cons_succ]
      refine reg_take (i := 6) (v := ?_) rfl (by kernel_rfl) (by kernel_rfl) (by kernel_rfl) (fun _ _ _ h => h) (Or.inl ⟨by kernel_rfl, ?_⟩) hS ?_
      rotate_left
      · (intro w' hSw; obtain ⟨t0, t1⟩ := HC.out w' hSw; go_simp <;> with_reducible rfl)
      try simp only [List.getElem_toArray, List.getElem_cons_succ, List.getElem_cons_zero, Act.put, List.setIfInBounds_toArray, List.set_cons_zero, List.set_cons_succ]
      refine reg_take (i := 7) (v := ?_) rfl (by kernel_rfl) (by kernel_rfl) (by kernel_rfl) (fun _ _ _ h => h) (Or.inl ⟨by kernel_rfl, ?_⟩) hS ?_
      rotate_left
      · (intro w' hSw; obtain ⟨t0, t1⟩ := HC.out w' hSw; go_simp <;> with_reducible rfl)
      try simp only [List.getElem_toArray, List.getElem_cons_succ, List.getElem_cons_zero, Act.put, List.setIfInBounds_toArray, List.set_cons_zero, List.set_cons_succ]
      refine reg_take (i := 8) (v := ?_) rfl (by kernel_rfl) (by kernel_rfl) (by kernel_rfl) (fun _ _ _ h => h) (Or.inl ⟨by kernel_rfl, ?_⟩) hS ?_
      rotate_left
      · (intro w' hSw; obtain ⟨t0, t1⟩ := HC.out w' hSw; go_simp <;> with_reducible rfl)
      try simp only [List.getElem_toArray, List.getElem_cons_succ, List.getElem_cons_zero, Act.put, List.setIfInBounds_toArray, List.set_cons_zero, List.set_cons_succ]
      refine reg_take (i := 9) (v := ?_) rfl (by kernel_rfl) (by kernel_rfl) (by kernel_rfl) (fun _ _ _ h => h) (Or.inl ⟨by kernel_rfl, ?_⟩) hS ?_
      rotate_left
      · (intro w' hSw; obtain ⟨t0, t1⟩ := HC.out w' hSw; go_simp <;> with_reducible rfl)
      try simp only [List.getElem_toArray, List.getElem_cons_succ, List.getElem_cons_zero, Act.put, List.setIfInBounds_toArray, List.set_cons_zero, List.set_cons_succ]
      refine wpAnyH_done (by kernel_rfl) ?_ _
      try simp only [List.getElem_toArray, List.getElem_cons_succ, List.getElem_cons_zero]
      try simp only [List.getElem_toArray, List.getElem_cons_succ, List.getElem_cons_zero, Act.put, List.setIfInBounds_toArray, List.set_cons_zero, List.set_cons_succ]
      generalize wr.drew = wd at hS ⊢
      have z0 : wd.cell? ⟨x + 1 + 1 + 1, k, none⟩ = some (.int .i64 (f k)) := by rw [(hS.get 3 rfl).cell k]; exact f8_get f k hlt
      have zf := hS.free 3 rfl
      have m1 : (c + A + B).tmod 65536 = lim (s + t) k := by rw [Int.tmod_eq_emod_of_nonneg (by omega)]; exact p1
      have m2 : (c + A + B).tdiv 65536 = cy s t (k + 1) := by rw [Int.tdiv_eq_ediv_of_nonneg (by omega)]; exact p2
      have c1 := cy_bd s t (k + 1)
      have m3 : wrap64 (cy s t (k + 1)) = cy s t (k + 1) := by unfold wrap64; omega
      clear c1
      have hst := hS.set 3 k rfl (.int .i64 (lim (s + t) k))
      rw [f8_set f k hlt] at hst
      have HT := Lib.hid hst
      clear hS hst HS p1 p2
      go_wp2_with fail
      go_roundw
      case rel =>
        refine ⟨k + 1, updF f k (lim (s + t) k), by omega, by go_num, by rw [m3], fun j hj => ?_, HT.out⟩
        have h1 := HK.out j hj
        unfold updF
        by_cases h2 : j = k
        · subst h2
          rw [if_pos rfl, if_pos (by omega)]
        · rw [if_neg h2, h1]
          by_cases h3 : j < k
          · rw [if_pos h3, if_pos (by omega)]
          · rw [if_neg h3, if_neg (by omega)]
      case measure => simp [intOf]; omega
    · obtain rfl : k = 8 := by omega
      rw [f8_congr (fun i hi => (hf i hi).trans (if_pos hi))] at hS
      have z0_0 := hS.cell 0 0 rfl rfl; have z0_1 := hS.cell 0 1 rfl rfl; have z0_2 := hS.cell 0 2 rfl rfl; have z0_3 := hS.cell 0 3 rfl rfl; have z0_4 := hS.cell 0 4 rfl rfl; have z0_5 := hS.cell 0 5 rfl rfl; have z0_6 := hS.cell 0 6 rfl rfl; have z0_7 := hS.cell 0 7 rfl rfl; have z1_0 := hS.cell 1 0 rfl rfl; have z1_1 := hS.cell 1 1 rfl rfl; have z1_2 := hS.cell 1 2 rfl rfl; have z1_3 := hS.cell 1 3 rfl rfl; have z1_4 := hS.cell 1 4 rfl rfl; have z1_5 := hS.cell 1 5 rfl rfl; have z1_6 := hS.cell 1 6 rfl rfl; have z1_7 := hS.cell 1 7 rfl rfl; have z2_0 := hS.cell 2 0 rfl rfl; have z2_1 := hS.cell 2 1 rfl rfl; have z2_2 := hS.cell 2 2 rfl rfl; have z2_3 := hS.cell 2 3 rfl rfl; have z2_4 := hS.cell 2 4 rfl rfl; have z2_5 := hS.cell 2 5 rfl rfl; have z2_6 := hS.cell 2 6 rfl rfl; have z2_7 := hS.cell 2 7 rfl rfl; have z3_0 := hS.cell 3 0 rfl rfl; have z3_1 := hS.cell 3 1 rfl rfl; have z3_2 := hS.cell 3 2 rfl rfl; have z3_3 := hS.cell 3 3 rfl rfl; have z3_4 := hS.cell 3 4 rfl rfl; have z3_5 := hS.cell 3 5 rfl rfl; have z3_6 := hS.cell 3 6 rfl rfl; have z3_7 := hS.cell 3 7 rfl rfl
      have zf := hS.free 2 rfl
      have HP := Lib.hid (Own.setFrom_own [.int .i64 (lim ((s + t)) 0), .int .i64 (lim ((s + t)) 1), .int .i64 (lim ((s + t)) 2), .int .i64 (lim ((s + t)) 3), .int .i64 (lim ((s + t)) 4), .int .i64 (lim ((s + t)) 5), .int .i64 (lim ((s + t)) 6), .int .i64 (lim ((s + t)) 7)] 0 wr _ (hS.front 2 rfl)).bel
      clear hS hf
      go_wp2_with fail
      exact bodyPost_ret (v := .agg #[.int .i64 (lim ((s + t)) 0), .int .i64 (lim ((s + t)) 1), .int .i64 (lim ((s + t)) 2), .int .i64 (lim ((s + t)) 3), .int .i64 (lim ((s + t)) 4), .int .i64 (lim ((s + t)) 5), .int .i64 (lim ((s + t)) 6), .int .i64 (lim ((s + t)) 7)]) (by simp [results, Tryd.results57, go_sem, z2_0, z2_1, z2_2, z2_3, z2_4, z2_5, z2_6, z2_7]) rfl ⟨rfl, HP.out⟩
def NotF (f : Nat → Int) (s : Int) (k : Nat) : Prop := ∀ j, j < 8 → f j = if j < k then lim (-1 - s) j else 0
set_option maxRecDepth 100000 in
set_option maxHeartbeats 4000000 in
theorem rminus_any (s : Int) (w : World) : Calls Tryd.prog 45 #[.agg #[.int .i64 (lim (s) 0), .int .i64 (lim (s) 1), .int .i64 (lim (s) 2), .int .i64 (lim (s) 3), .int .i64 (lim (s) 4), .int .i64 (lim (s) 5), .int .i64 (lim (s) 6), .int .i64 (lim (s) 7)]] w (LimPost (-s) w) := by
  obtain ⟨x, hx⟩ : ∃ x, x = w.heap.size := ⟨_, rfl⟩
  have o0 := Own.own3 w hx 33 #[.int .i64 (lim (s) 0), .int .i64 (lim (s) 1), .int .i64 (lim (s) 2), .int .i64 (lim (s) 3), .int .i64 (lim (s) 4), .int .i64 (lim (s) 5), .int .i64 (lim (s) 6), .int .i64 (lim (s) 7)] 33 #[.int .i64 0, .int .i64 0, .int .i64 0, .int .i64 0, .int .i64 0, .int .i64 0, .int .i64 0, .int .i64 0] 33 #[.int .i64 0, .int .i64 0, .int .i64 0, .int .i64 0, .int .i64 0, .int .i64 0, .int .i64 0, .int .i64 0]
  have HO := Lib.hid (And.intro hx o0)
  clear hx o0
  go_enter Tryd.func45, Tryd.ntmps45
  go_wp2_with fail
  rw [← HO.out.1]
  go_loopw [4] (fun i wr => ∃ (k : Nat) (f : Nat → Int), k ≤ 8 ∧ i = .int .i64 k ∧ NotF f s k ∧ Own w [(x, 33, #[.int .i64 (lim (s) 0), .int .i64 (lim (s) 1), .int .i64 (lim (s) 2), .int .i64 (lim (s) 3), .int .i64 (lim (s) 4), .int .i64 (lim (s) 5), .int .i64 (lim (s) 6), .int .i64 (lim (s) 7)]), (x + 1, 33, #[.int .i64 0, .int .i64 0, .int .i64 0, .int .i64 0, .int .i64 0, .int .i64 0, .int .i64 0, .int .i64 0]), (x + 1 + 1, 33, #[.int .i64 (f 0), .int .i64 (f 1), .int .i64 (f 2), .int .i64 (f 3), .int .i64 (f 4), .int .i64 (f 5), .int .i64 (f 6), .int .i64 (f 7)])] wr) (fun i _ => 8 - (intOf i).toNat)
  case atStart => exact ⟨0, fun _ => 0, Nat.zero_le _, rfl, fun j hj => by rw [if_neg (Nat.not_lt_zero _)], HO.out.2⟩
  case round =>
    obtain ⟨k, f, hk, rfl, hf, hS⟩ := hrel
    by_cases hlt : k < 8
    · have z0 : wr.cell? ⟨x, k, none⟩ = some (.int .i64 (lim s k)) := by rw [(hS.get 0 rfl).cell k]; exact f8_get (lim s) k hlt
      have z1 : wr.cell? ⟨x + 1 + 1, k, none⟩ = some (.int .i64 (f k)) := by rw [(hS.get 2 rfl).cell k]; exact f8_get f k hlt
      have zf := hS.free 2 rfl
      have a0 := lim_bd s k
      have a1 := lim_bd (-1 - s) k
      have m1 : 65535 - lim s k = lim (-1 - s) k := (lim_not s k).symm
      have m2 : wrap64 (lim (-1 - s) k) = lim (-1 - s) k := by unfold wrap64; omega
      have m3 : IntKind.i64.wrap (lim (-1 - s) k) = lim (-1 - s) k := IntWalk.i64_in _ (by omega)
      have hst := hS.set 2 k rfl (.int .i64 (lim (-1 - s) k))
      rw [f8_set f k hlt] at hst
      have HK := Lib.hid (And.intro hf hst)
      obtain ⟨v, hv⟩ : ∃ v, v = lim (-1 - s) k := ⟨_, rfl⟩
      rw [← hv] at m1 m2 m3 a1 HK
      have HV := Lib.hid hv
      clear hf hst hS hv
      generalize lim s k = u at *
      go_wp2_with fail
      go_roundw
      case rel =>
        refine ⟨k + 1, updF f k v, by omega, by go_num, fun j hj => ?_, HK.out.2⟩
        have h1 := HK.out.1 j hj
        unfold updF
        by_cases h2 : j = k
        · subst h2
          rw [if_pos rfl, if_pos (by omega), HV.out]
        · rw [if_neg h2, h1]
          by_cases h3 : j < k
          · rw [if_pos h3, if_pos (by omega)]
          · rw [if_neg h3, if_neg (by omega)]
      case measure => simp [intOf]; omega
    · obtain rfl : k = 8 := by omega
      rw [f8_congr (fun i hi => (hf i hi).trans (if_pos hi))] at hS
      have z0_0 := hS.cell 0 0 rfl rfl; have z0_1 := hS.cell 0 1 rfl rfl; have z0_2 := hS.cell 0 2 rfl rfl; have z0_3 := hS.cell 0 3 rfl rfl; have z0_4 := hS.cell 0 4 rfl rfl; have z0_5 := hS.cell 0 5 rfl rfl; have z0_6 := hS.cell 0 6 rfl rfl; have z0_7 := hS.cell 0 7 rfl rfl; have z1_0 := hS.cell 1 0 rfl rfl; have z1_1 := hS.cell 1 1 rfl rfl; have z1_2 := hS.cell 1 2 rfl rfl; have z1_3 := hS.cell 1 3 rfl rfl; have z1_4 := hS.cell 1 4 rfl rfl; have z1_5 := hS.cell 1 5 rfl rfl; have z1_6 := hS.cell 1 6 rfl rfl; have z1_7 := hS.cell 1 7 rfl rfl; have z2_0 := hS.cell 2 0 rfl rfl; have z2_1 := hS.cell 2 1 rfl rfl; have z2_2 := hS.cell 2 2 rfl rfl; have z2_3 := hS.cell 2 3 rfl rfl; have z2_4 := hS.cell 2 4 rfl rfl; have z2_5 := hS.cell 2 5 rfl rfl; have z2_6 := hS.cell 2 6 rfl rfl; have z2_7 := hS.cell 2 7 rfl rfl
      have HS := Lib.hid hS
      clear hS hf
      go_wp2_with fail
      refine (rplus_any (-1 - s) 1 _).mono ?_
      rintro e w2 ⟨rfl, hb2⟩
      have hS := HS.out.call hb2
      have he : -1 - s + 1 = -s := by omega
      rw [he]
      have z0_0 := hS.cell 0 0 rfl rfl; have z0_1 := hS.cell 0 1 rfl rfl; have z0_2 := hS.cell 0 2 rfl rfl; have z0_3 := hS.cell 0 3 rfl rfl; have z0_4 := hS.cell 0 4 rfl rfl; have z0_5 := hS.cell 0 5 rfl rfl; have z0_6 := hS.cell 0 6 rfl rfl; have z0_7 := hS.cell 0 7 rfl rfl; have z1_0 := hS.cell 1 0 rfl rfl; have z1_1 := hS.cell 1 1 rfl rfl; have z1_2 := hS.cell 1 2 rfl rfl; have z1_3 := hS.cell 1 3 rfl rfl; have z1_4 := hS.cell 1 4 rfl rfl; have z1_5 := hS.cell 1 5 rfl rfl; have z1_6 := hS.cell 1 6 rfl rfl; have z1_7 := hS.cell 1 7 rfl rfl; have z2_0 := hS.cell 2 0 rfl rfl; have z2_1 := hS.cell 2 1 rfl rfl; have z2_2 := hS.cell 2 2 rfl rfl; have z2_3 := hS.cell 2 3 rfl rfl; have z2_4 := hS.cell 2 4 rfl rfl; have z2_5 := hS.cell 2 5 rfl rfl; have z2_6 := hS.cell 2 6 rfl rfl; have z2_7 := hS.cell 2 7 rfl rfl
      have zf := hS.free 1 rfl
      have HP := Lib.hid (Own.setFrom_own [.int .i64 (lim ((-s)) 0), .int .i64 (lim ((-s)) 1), .int .i64 (lim ((-s)) 2), .int .i64 (lim ((-s)) 3), .int .i64 (lim ((-s)) 4), .int .i64 (lim ((-s)) 5), .int .i64 (lim ((-s)) 6), .int .i64 (lim ((-s)) 7)] 0 w2 _ (hS.front 1 rfl)).bel
      clear hS hb2 he
      go_wp2_with fail
      exact bodyPost_ret (v := .agg #[.int .i64 (lim ((-s)) 0), .int .i64 (lim ((-s)) 1), .int .i64 (lim ((-s)) 2), .int .i64 (lim ((-s)) 3), .int .i64 (lim ((-s)) 4), .int .i64 (lim ((-s)) 5), .int .i64 (lim ((-s)) 6), .int .i64 (lim ((-s)) 7)]) (by simp [results, Tryd.results45, go_sem, z1_0, z1_1, z1_2, z1_3, z1_4, z1_5, z1_6, z1_7]) rfl ⟨rfl, HP.out⟩
end Go.Proofs.YthhgnngpaagagaaDoor
