/-
  The contract of tidemillref07.Below. (Printed by mk.py.)
-/
import Derived.Test.YthhgnngpaagagaaDoorLmB
import Derived.Test.YthhgnngpaagagaaDoorLmS
import Derived.Deep.DeepCutAuto
namespace Go.Proofs.YthhgnngpaagagaaDoor
open Go.RowKit
set_option linter.unusedVariables false
set_option linter.unusedSimpArgs false
theorem dv_mono {s t : Int} (h : s ≤ t) : ∀ i, dv s i ≤ dv t i
  | 0 => h
  | i + 1 => by
    show dv s i / 65536 ≤ dv t i / 65536
    have := dv_mono h i
    omega
theorem dv_eight {s : Int} (h : S128 s) : (0 ≤ s → dv s 8 = 0) ∧ (s < 0 → dv s 8 = -1) := by
  have e : dv s 8 = hiOf (hiOf s) := by rw [show (8 : Nat) = 4 + 4 from rfl, dv_add, dv_four, dv_four]
  rw [e]
  unfold S128 at h
  unfold hiOf
  omega
theorem dv_top {s t : Int} (m : Nat) (h8 : dv s 8 = dv t 8) (h : ∀ j, m ≤ j → j < 8 → lim s j = lim t j) : ∀ k, k ≤ 8 → m + k ≤ 8 → dv s (8 - k) = dv t (8 - k)
  | 0, _, _ => h8
  | k + 1, hk, hm => by
    have ih := dv_top m h8 h k (by omega) (by omega)
    have hl := h (8 - (k + 1)) (by omega) (by omega)
    have e : 8 - k = (8 - (k + 1)) + 1 := by omega
    rw [e] at ih
    have h1 : dv s (8 - (k + 1)) / 65536 = dv t (8 - (k + 1)) / 65536 := ih
    unfold lim at hl
    omega
theorem lim_lt {s t : Int} (hs : S128 s) (ht : S128 t) (hst : s < 0 ↔ t < 0) (i : Nat) (hi : i < 8) (h : ∀ j, i + 1 ≤ j → j < 8 → lim s j = lim t j) (hne : lim s i ≠ lim t i) : (lim s i < lim t i) ↔ s < t := by
  have h8 : dv s 8 = dv t 8 := by
    have h1 := dv_eight hs
    have h2 := dv_eight ht
    by_cases c : s < 0
    · rw [h1.2 c, h2.2 (hst.1 c)]
    · rw [h1.1 (by omega), h2.1 (by have := mt hst.2 c; omega)]
  have hd := dv_top (i + 1) h8 h (8 - (i + 1)) (by omega) (by omega)
  rw [show 8 - (8 - (i + 1)) = i + 1 by omega] at hd
  have hd' : dv s i / 65536 = dv t i / 65536 := hd
  unfold lim at hne ⊢
  constructor
  · intro hl
    rcases Int.lt_or_le s t with c | c
    · exact c
    · have := dv_mono c i
      omega
  · intro hl
    have := dv_mono (Int.le_of_lt hl) i
    omega
theorem lim_all {s t : Int} (hs : S128 s) (ht : S128 t) (hst : s < 0 ↔ t < 0) (h : ∀ j, j < 8 → lim s j = lim t j) : ¬ s < t := by
  have := lim_inj hs ht h
  omega
set_option maxRecDepth 100000 in
set_option maxHeartbeats 4000000 in
theorem rbelow_any (s t : Int) (hs : S128 s) (ht : S128 t) (w : World) : Calls Tryd.prog 26 #[.agg #[.int .i64 (lim (s) 0), .int .i64 (lim (s) 1), .int .i64 (lim (s) 2), .int .i64 (lim (s) 3), .int .i64 (lim (s) 4), .int .i64 (lim (s) 5), .int .i64 (lim (s) 6), .int .i64 (lim (s) 7)], .agg #[.int .i64 (lim (t) 0), .int .i64 (lim (t) 1), .int .i64 (lim (t) 2), .int .i64 (lim (t) 3), .int .i64 (lim (t) 4), .int .i64 (lim (t) 5), .int .i64 (lim (t) 6), .int .i64 (lim (t) 7)]] w fun e w' => e = .returned (.bool (decide (s < t))) ∧ Below w.heap.size w w' := by
  have hn1 := negative_any s hs
  have hn2 := negative_any t ht
  obtain ⟨b1, hb1⟩ : ∃ b, b = decide (s < 0) := ⟨_, rfl⟩
  obtain ⟨b2, hb2⟩ : ∃ b, b = decide (t < 0) := ⟨_, rfl⟩
  rw [← hb1] at hn1
  rw [← hb2] at hn2
  generalize hfs : lim s = fs at hn1 ⊢
  generalize hft : lim t = ft at hn2 ⊢
  obtain ⟨x, hx⟩ : ∃ x, x = w.heap.size := ⟨_, rfl⟩
  have o0 := Own.own2 w hx 33 #[.int .i64 (fs 0), .int .i64 (fs 1), .int .i64 (fs 2), .int .i64 (fs 3), .int .i64 (fs 4), .int .i64 (fs 5), .int .i64 (fs 6), .int .i64 (fs 7)] 33 #[.int .i64 (ft 0), .int .i64 (ft 1), .int .i64 (ft 2), .int .i64 (ft 3), .int .i64 (ft 4), .int .i64 (ft 5), .int .i64 (ft 6), .int .i64 (ft 7)]
  have HO := Lib.hid (And.intro hx (And.intro o0 (And.intro hs (And.intro ht (And.intro hfs hft)))))
  have HN := Lib.hid (And.intro hn1 hn2)
  have HB := Lib.hid (And.intro hb1 hb2)
  clear hx o0 hs ht hfs hft hn1 hn2 hb1 hb2
  go_enter Tryd.func26, Tryd.ntmps26
  go_upto_region 1 with (fail)
  rw [← HO.out.1]
  have hS : (Own w [(x, 33, #[.int .i64 (fs 0), .int .i64 (fs 1), .int .i64 (fs 2), .int .i64 (fs 3), .int .i64 (fs 4), .int .i64 (fs 5), .int .i64 (fs 6), .int .i64 (fs 7)]), (x + 1, 33, #[.int .i64 (ft 0), .int .i64 (ft 1), .int .i64 (ft 2), .int .i64 (ft 3), .int .i64 (ft 4), .int .i64 (ft 5), .int .i64 (ft 6), .int .i64 (ft 7)])]) (((w.alloc (.cells #[.int .i64 (fs 0), .int .i64 (fs 1), .int .i64 (fs 2), .int .i64 (fs 3), .int .i64 (fs 4), .int .i64 (fs 5), .int .i64 (fs 6), .int .i64 (fs 7)] 33)).alloc (.cells #[.int .i64 (ft 0), .int .i64 (ft 1), .int .i64 (ft 2), .int .i64 (ft 3), .int .i64 (ft 4), .int .i64 (ft 5), .int .i64 (ft 6), .int .i64 (ft 7)] 33)).drew) := HO.out.2.1.drew
  refine reg_start (Own w [(x, 33, #[.int .i64 (fs 0), .int .i64 (fs 1), .int .i64 (fs 2), .int .i64 (fs 3), .int .i64 (fs 4), .int .i64 (fs 5), .int .i64 (fs 6), .int .i64 (fs 7)]), (x + 1, 33, #[.int .i64 (ft 0), .int .i64 (ft 1), .int .i64 (ft 2), .int .i64 (ft 3), .int .i64 (ft 4), .int .i64 (ft 5), .int .i64 (ft 6), .int .i64 (ft 7)])]) (by kernel_rfl) hS ?_
  refine reg_take (i := 0) (v := ?_) rfl (by kernel_rfl) (by kernel_rfl) (by kernel_rfl) (fun _ _ _ h => h) (Or.inl ⟨by kernel_rfl, ?_⟩) hS ?_
  rotate_left
  · (intro w' hSw; have z0_0 := hSw.cell 0 0 rfl rfl; have z0_1 := hSw.cell 0 1 rfl rfl; have z0_2 := hSw.cell 0 2 rfl rfl; have z0_3 := hSw.cell 0 3 rfl rfl; have z0_4 := hSw.cell 0 4 rfl rfl; have z0_5 := hSw.cell 0 5 rfl rfl; have z0_6 := hSw.cell 0 6 rfl rfl; have z0_7 := hSw.cell 0 7 rfl rfl; go_simp <;> with_reducible rfl)
  try simp only [List.getElem_toArray, List.getElem_cons_succ, List.getElem_cons_zero, Act.put, List.setIfInBounds_toArray, List.set_cons_zero, List.set_cons_succ]
  refine reg_take (i := 2) (v := ?_) rfl (by kernel_rfl) (by kernel_rfl) (by kernel_rfl) (fun _ _ _ h => h) (Or.inl ⟨by kernel_rfl, ?_⟩) hS ?_
  rotate_left
  · (intro w' hSw; have z1_0 := hSw.cell 1 0 rfl rfl; have z1_1 := hSw.cell 1 1 rfl rfl; have z1_2 := hSw.cell 1 2 rfl rfl; have z1_3 := hSw.cell 1 3 rfl rfl; have z1_4 := hSw.cell 1 4 rfl rfl; have z1_5 := hSw.cell 1 5 rfl rfl; have z1_6 := hSw.cell 1 6 rfl rfl; have z1_7 := hSw.cell 1 7 rfl rfl; go_simp <;> with_reducible rfl)
  try simp only [List.getElem_toArray, List.getElem_cons_succ, List.getElem_cons_zero, Act.put, List.setIfInBounds_toArray, List.set_cons_zero, List.set_cons_succ]
  refine reg_call (i := 1) rfl (by kernel_rfl) (fun K hK => ?_)
  have HK := Lib.hid hK
  clear hK
  go_simp
  refine (HN.out.1 _).mono ?_
  rintro e w3 ⟨rfl, h3⟩
  have H3 := Lib.hid (hS.call h3)
  clear h3
  go_wp2_with fail
  refine HK.out.to (Own w [(x, 33, #[.int .i64 (fs 0), .int .i64 (fs 1), .int .i64 (fs 2), .int .i64 (fs 3), .int .i64 (fs 4), .int .i64 (fs 5), .int .i64 (fs 6), .int .i64 (fs 7)]), (x + 1, 33, #[.int .i64 (ft 0), .int .i64 (ft 1), .int .i64 (ft 2), .int .i64 (ft 3), .int .i64 (ft 4), .int .i64 (ft 5), .int .i64 (ft 6), .int .i64 (ft 7)])]) (fun _ h => h) (H3.out) ?_
  clear HK hS
  have hS : (Own w [(x, 33, #[.int .i64 (fs 0), .int .i64 (fs 1), .int .i64 (fs 2), .int .i64 (fs 3), .int .i64 (fs 4), .int .i64 (fs 5), .int .i64 (fs 6), .int .i64 (fs 7)]), (x + 1, 33, #[.int .i64 (ft 0), .int .i64 (ft 1), .int .i64 (ft 2), .int .i64 (ft 3), .int .i64 (ft 4), .int .i64 (ft 5), .int .i64 (ft 6), .int .i64 (ft 7)])]) (w3) := H3.out
  try simp only [List.getElem_toArray, List.getElem_cons_succ, List.getElem_cons_zero, Act.put, List.setIfInBounds_toArray, List.set_cons_zero, List.set_cons_succ]
  refine reg_call (i := 3) rfl (by kernel_rfl) (fun K hK => ?_)
  have HK := Lib.hid hK
  clear hK
  go_simp
  refine (HN.out.2 _).mono ?_
  rintro e w4 ⟨rfl, h4⟩
  have H4 := Lib.hid (hS.call h4)
  clear h4
  go_wp2_with fail
  refine HK.out.to (Own w [(x, 33, #[.int .i64 (fs 0), .int .i64 (fs 1), .int .i64 (fs 2), .int .i64 (fs 3), .int .i64 (fs 4), .int .i64 (fs 5), .int .i64 (fs 6), .int .i64 (fs 7)]), (x + 1, 33, #[.int .i64 (ft 0), .int .i64 (ft 1), .int .i64 (ft 2), .int .i64 (ft 3), .int .i64 (ft 4), .int .i64 (ft 5), .int .i64 (ft 6), .int .i64 (ft 7)])]) (fun _ h => h) (H4.out) ?_
  clear HK hS
  have hS : (Own w [(x, 33, #[.int .i64 (fs 0), .int .i64 (fs 1), .int .i64 (fs 2), .int .i64 (fs 3), .int .i64 (fs 4), .int .i64 (fs 5), .int .i64 (fs 6), .int .i64 (fs 7)]), (x + 1, 33, #[.int .i64 (ft 0), .int .i64 (ft 1), .int .i64 (ft 2), .int .i64 (ft 3), .int .i64 (ft 4), .int .i64 (ft 5), .int .i64 (ft 6), .int .i64 (ft 7)])]) (w4) := H4.out
  try simp only [List.getElem_toArray, List.getElem_cons_succ, List.getElem_cons_zero, Act.put, List.setIfInBounds_toArray, List.set_cons_zero, List.set_cons_succ]
  refine reg_take (i := 4) (v := ?_) rfl (by kernel_rfl) (by kernel_rfl) (by kernel_rfl) (fun _ _ _ h => h) (Or.inl ⟨by kernel_rfl, ?_⟩) hS ?_
  rotate_left
  · (intro w' hSw; go_simp <;> with_reducible rfl)
  try simp only [List.getElem_toArray, List.getElem_cons_succ, List.getElem_cons_zero, Act.put, List.setIfInBounds_toArray, List.set_cons_zero, List.set_cons_succ]
  refine wpAnyH_done (by kernel_rfl) ?_ _
  try simp only [List.getElem_toArray, List.getElem_cons_succ, List.getElem_cons_zero]
  try simp only [List.getElem_toArray, List.getElem_cons_succ, List.getElem_cons_zero, Act.put, List.setIfInBounds_toArray, List.set_cons_zero, List.set_cons_succ]
  clear hS
  by_cases hbb : b1 = b2
  · subst hbb
    have H4 := Lib.hid H4.out
    cases b1 with
    | false =>
      go_wp2_with fail
      go_loopw [5] (fun i wr => ∃ (m : Nat), m ≤ 8 ∧ i = .int .i64 ((m : Int) - 1) ∧ (∀ j, m ≤ j → j < 8 → fs j = ft j) ∧ Own w [(x, 33, #[.int .i64 (fs 0), .int .i64 (fs 1), .int .i64 (fs 2), .int .i64 (fs 3), .int .i64 (fs 4), .int .i64 (fs 5), .int .i64 (fs 6), .int .i64 (fs 7)]), (x + 1, 33, #[.int .i64 (ft 0), .int .i64 (ft 1), .int .i64 (ft 2), .int .i64 (ft 3), .int .i64 (ft 4), .int .i64 (ft 5), .int .i64 (ft 6), .int .i64 (ft 7)])] wr) (fun i _ => ((intOf i) + 1).toNat)
      case atStart => exact ⟨8, Nat.le_refl _, rfl, fun j h1 h2 => by omega, H4.out⟩
      case round =>
        obtain ⟨m, hm, rfl, heq, hst⟩ := hrel
        have HH := Lib.hid heq
        clear heq
        by_cases hlt : 0 < m
        · obtain ⟨i, rfl⟩ : ∃ i, m = i + 1 := ⟨m - 1, by omega⟩
          have ei : ((i + 1 : Nat) : Int) - 1 = (i : Int) := by omega
          rw [ei]
          have hi8 : i < 8 := by omega
          have HW := Lib.hid (show wrap64 ((i : Int) - 1) = (i : Int) - 1 by unfold wrap64; omega)
          have HS := Lib.hid hst
          clear hst ei
          go_upto_region 6 with (fail)
          have hS : (Own w [(x, 33, #[.int .i64 (fs 0), .int .i64 (fs 1), .int .i64 (fs 2), .int .i64 (fs 3), .int .i64 (fs 4), .int .i64 (fs 5), .int .i64 (fs 6), .int .i64 (fs 7)]), (x + 1, 33, #[.int .i64 (ft 0), .int .i64 (ft 1), .int .i64 (ft 2), .int .i64 (ft 3), .int .i64 (ft 4), .int .i64 (ft 5), .int .i64 (ft 6), .int .i64 (ft 7)])]) (wr.drew) := HS.out.drew
          refine reg_start (Own w [(x, 33, #[.int .i64 (fs 0), .int .i64 (fs 1), .int .i64 (fs 2), .int .i64 (fs 3), .int .i64 (fs 4), .int .i64 (fs 5), .int .i64 (fs 6), .int .i64 (fs 7)]), (x + 1, 33, #[.int .i64 (ft 0), .int .i64 (ft 1), .int .i64 (ft 2), .int .i64 (ft 3), .int .i64 (ft 4), .int .i64 (ft 5), .int .i64 (ft 6), .int .i64 (ft 7)])]) (by kernel_rfl) hS ?_
          refine reg_take (i := 0) (v := ?_) rfl (by kernel_rfl) (by kernel_rfl) (by kernel_rfl) (fun _ _ _ h => h) (Or.inl ⟨by kernel_rfl, ?_⟩) hS ?_
          rotate_left
          · (intro w' hSw; go_simp <;> with_reducible rfl)
          try simp only [List.getElem_toArray, List.getElem_cons_succ, List.getElem_cons_zero, Act.put, List.setIfInBounds_toArray, List.set_cons_zero, List.set_cons_succ]
          refine reg_take (i := 1) (v := ?_) rfl (by kernel_rfl) (by kernel_rfl) (by kernel_rfl) (fun _ _ _ h => h) (Or.inl ⟨by kernel_rfl, ?_⟩) hS ?_
          rotate_left
          · (intro w' hSw; have hb8 : (i : Int) < 8 := (by omega); go_simp <;> with_reducible rfl)
          try simp only [List.getElem_toArray, List.getElem_cons_succ, List.getElem_cons_zero, Act.put, List.setIfInBounds_toArray, List.set_cons_zero, List.set_cons_succ]
          refine reg_take (i := 2) (v := ?_) rfl (by kernel_rfl) (by kernel_rfl) (by kernel_rfl) (fun _ _ _ h => h) (Or.inl ⟨by kernel_rfl, ?_⟩) hS ?_
          rotate_left
          · (intro w' hSw; have u0 : w'.cell? ⟨x, i, none⟩ = some (.int .i64 (fs i)) := (by rw [(hSw.get 0 rfl).cell i]; exact f8_get fs i hi8); go_simp <;> with_reducible rfl)
          try simp only [List.getElem_toArray, List.getElem_cons_succ, List.getElem_cons_zero, Act.put, List.setIfInBounds_toArray, List.set_cons_zero, List.set_cons_succ]
          refine reg_take (i := 3) (v := ?_) rfl (by kernel_rfl) (by kernel_rfl) (by kernel_rfl) (fun _ _ _ h => h) (Or.inl ⟨by kernel_rfl, ?_⟩) hS ?_
          rotate_left
          · (intro w' hSw; go_simp <;> with_reducible rfl)
          try simp only [List.getElem_toArray, List.getElem_cons_succ, List.getElem_cons_zero, Act.put, List.setIfInBounds_toArray, List.set_cons_zero, List.set_cons_succ]
          refine reg_take (i := 4) (v := ?_) rfl (by kernel_rfl) (by kernel_rfl) (by kernel_rfl) (fun _ _ _ h => h) (Or.inl ⟨by kernel_rfl, ?_⟩) hS ?_
          rotate_left
          · (intro w' hSw; have hb8 : (i : Int) < 8 := (by omega); go_simp <;> with_reducible rfl)
          try simp only [List.getElem_toArray, List.getElem_cons_succ, List.getElem_cons_zero, Act.put, List.setIfInBounds_toArray, List.set_cons_zero, List.set_cons_succ]
          refine reg_take (i := 5) (v := ?_) rfl (by kernel_rfl) (by kernel_rfl) (by kernel_rfl) (fun _ _ _ h => h) (Or.inl ⟨by kernel_rfl, ?_⟩) hS ?_
          rotate_left
          · (intro w' hSw; have u1 : w'.cell? ⟨x + 1, i, none⟩ = some (.int .i64 (ft i)) := (by rw [(hSw.get 1 rfl).cell i]; exact f8_get ft i hi8); go_simp <;> with_reducible rfl)
          try simp only [List.getElem_toArray, List.getElem_cons_succ, List.getElem_cons_zero, Act.put, List.setIfInBounds_toArray, List.set_cons_zero, List.set_cons_succ]
          refine reg_take (i := 6) (v := ?_) rfl (by kernel_rfl) (by kernel_rfl) (by kernel_rfl) (fun _ _ _ h => h) (Or.inl ⟨by kernel_rfl, ?_⟩) hS ?_
          rotate_left
          · (intro w' hSw; go_simp <;> with_reducible rfl)
          try simp only [List.getElem_toArray, List.getElem_cons_succ, List.getElem_cons_zero, Act.put, List.setIfInBounds_toArray, List.set_cons_zero, List.set_cons_succ]
          refine wpAnyH_done (by kernel_rfl) ?_ _
          try simp only [List.getElem_toArray, List.getElem_cons_succ, List.getElem_cons_zero]
          try simp only [List.getElem_toArray, List.getElem_cons_succ, List.getElem_cons_zero, Act.put, List.setIfInBounds_toArray, List.set_cons_zero, List.set_cons_succ]
          clear hS
          by_cases hne : fs i = ft i
          · have d2 : (fs i != ft i) = false := by simp [hne]
            have d3 : (fs i == ft i) = true := by simp [hne]
            have HNE := Lib.hid hne
            clear hne
            have hd := Lib.hid HS.out.drew
            go_wp2_with fail
            go_roundw
            case rel =>
              refine ⟨i, by omega, rfl, fun j h1 h2 => ?_, hd.out⟩
              rcases Nat.lt_or_ge i j with c | c
              · exact HH.out j (by omega) h2
              · have : j = i := by omega
                subst this
                exact HNE.out
            case measure => simp [intOf] <;> omega
          · have d2 : (fs i != ft i) = true := by simp [hne]
            have d3 : (fs i == ft i) = false := by simp [hne]
            have HNE := Lib.hid hne
            clear hne
            have hd := HS.out.drew
            generalize wr.drew = wd at hd ⊢
            have HD := Lib.hid hd
            clear hd
            go_upto_region 7 with (fail)
            have hS : (Own w [(x, 33, #[.int .i64 (fs 0), .int .i64 (fs 1), .int .i64 (fs 2), .int .i64 (fs 3), .int .i64 (fs 4), .int .i64 (fs 5), .int .i64 (fs 6), .int .i64 (fs 7)]), (x + 1, 33, #[.int .i64 (ft 0), .int .i64 (ft 1), .int .i64 (ft 2), .int .i64 (ft 3), .int .i64 (ft 4), .int .i64 (ft 5), .int .i64 (ft 6), .int .i64 (ft 7)])]) (wd.drew) := HD.out.drew
            refine reg_start (Own w [(x, 33, #[.int .i64 (fs 0), .int .i64 (fs 1), .int .i64 (fs 2), .int .i64 (fs 3), .int .i64 (fs 4), .int .i64 (fs 5), .int .i64 (fs 6), .int .i64 (fs 7)]), (x + 1, 33, #[.int .i64 (ft 0), .int .i64 (ft 1), .int .i64 (ft 2), .int .i64 (ft 3), .int .i64 (ft 4), .int .i64 (ft 5), .int .i64 (ft 6), .int .i64 (ft 7)])]) (by kernel_rfl) hS ?_
            refine reg_take (i := 0) (v := ?_) rfl (by kernel_rfl) (by kernel_rfl) (by kernel_rfl) (fun _ _ _ h => h) (Or.inl ⟨by kernel_rfl, ?_⟩) hS ?_
            rotate_left
            · (intro w' hSw; go_simp <;> with_reducible rfl)
            try simp only [List.getElem_toArray, List.getElem_cons_succ, List.getElem_cons_zero, Act.put, List.setIfInBounds_toArray, List.set_cons_zero, List.set_cons_succ]
            refine reg_take (i := 1) (v := ?_) rfl (by kernel_rfl) (by kernel_rfl) (by kernel_rfl) (fun _ _ _ h => h) (Or.inl ⟨by kernel_rfl, ?_⟩) hS ?_
            rotate_left
            · (intro w' hSw; have hb8 : (i : Int) < 8 := (by omega); go_simp <;> with_reducible rfl)
            try simp only [List.getElem_toArray, List.getElem_cons_succ, List.getElem_cons_zero, Act.put, List.setIfInBounds_toArray, List.set_cons_zero, List.set_cons_succ]
            refine reg_take (i := 2) (v := ?_) rfl (by kernel_rfl) (by kernel_rfl) (by kernel_rfl) (fun _ _ _ h => h) (Or.inl ⟨by kernel_rfl, ?_⟩) hS ?_
            rotate_left
            · (intro w' hSw; have u0 : w'.cell? ⟨x, i, none⟩ = some (.int .i64 (fs i)) := (by rw [(hSw.get 0 rfl).cell i]; exact f8_get fs i hi8); go_simp <;> with_reducible rfl)
            try simp only [List.getElem_toArray, List.getElem_cons_succ, List.getElem_cons_zero, Act.put, List.setIfInBounds_toArray, List.set_cons_zero, List.set_cons_succ]
            refine reg_take (i := 3) (v := ?_) rfl (by kernel_rfl) (by kernel_rfl) (by kernel_rfl) (fun _ _ _ h => h) (Or.inl ⟨by kernel_rfl, ?_⟩) hS ?_
            rotate_left
            · (intro w' hSw; go_simp <;> with_reducible rfl)
            try simp only [List.getElem_toArray, List.getElem_cons_succ, List.getElem_cons_zero, Act.put, List.setIfInBounds_toArray, List.set_cons_zero, List.set_cons_succ]
            refine reg_take (i := 4) (v := ?_) rfl (by kernel_rfl) (by kernel_rfl) (by kernel_rfl) (fun _ _ _ h => h) (Or.inl ⟨by kernel_rfl, ?_⟩) hS ?_
            rotate_left
            · (intro w' hSw; have hb8 : (i : Int) < 8 := (by omega); go_simp <;> with_reducible rfl)
            try simp only [List.getElem_toArray, List.getElem_cons_succ, List.getElem_cons_zero, Act.put, List.setIfInBounds_toArray, List.set_cons_zero, List.set_cons_succ]
            refine reg_take (i := 5) (v := ?_) rfl (by kernel_rfl) (by kernel_rfl) (by kernel_rfl) (fun _ _ _ h => h) (Or.inl ⟨by kernel_rfl, ?_⟩) hS ?_
            rotate_left
            · (intro w' hSw; have u1 : w'.cell? ⟨x + 1, i, none⟩ = some (.int .i64 (ft i)) := (by rw [(hSw.get 1 rfl).cell i]; exact f8_get ft i hi8); go_simp <;> with_reducible rfl)
            try simp only [List.getElem_toArray, List.getElem_cons_succ, List.getElem_cons_zero, Act.put, List.setIfInBounds_toArray, List.set_cons_zero, List.set_cons_succ]
            refine reg_take (i := 6) (v := ?_) rfl (by kernel_rfl) (by kernel_rfl) (by kernel_rfl) (fun _ _ _ h => h) (Or.inl ⟨by kernel_rfl, ?_⟩) hS ?_
            rotate_left
            · (intro w' hSw; go_simp <;> with_reducible rfl)
            try simp only [List.getElem_toArray, List.getElem_cons_succ, List.getElem_cons_zero, Act.put, List.setIfInBounds_toArray, List.set_cons_zero, List.set_cons_succ]
            refine reg_take (i := 7) (v := ?_) rfl (by kernel_rfl) (by kernel_rfl) (by kernel_rfl) (fun _ _ _ h => h) (Or.inl ⟨by kernel_rfl, ?_⟩) hS ?_
            rotate_left
            · (intro w' hSw; go_simp <;> with_reducible rfl)
            try simp only [List.getElem_toArray, List.getElem_cons_succ, List.getElem_cons_zero, Act.put, List.setIfInBounds_toArray, List.set_cons_zero, List.set_cons_succ]
            refine wpAnyH_done (by kernel_rfl) ?_ _
            try simp only [List.getElem_toArray, List.getElem_cons_succ, List.getElem_cons_zero]
            try simp only [List.getElem_toArray, List.getElem_cons_succ, List.getElem_cons_zero, Act.put, List.setIfInBounds_toArray, List.set_cons_zero, List.set_cons_succ]
            clear hS
            have hfin : decide (fs i < ft i) = decide (s < t) := by
              obtain ⟨-, -, hs, ht, hfs, hft⟩ := HO.out
              subst hfs hft
              have hst : s < 0 ↔ t < 0 := by
                have h3 := HB.out.1.symm.trans HB.out.2
                simpa using h3
              simp only [lim_lt hs ht hst i hi8 HH.out HNE.out]
            have HF := Lib.hid (And.intro hfin HD.out.drew)
            clear hfin
            go_wp2_with fail
            go_ret
            exact ⟨by rw [← HF.out.1]; rfl, HF.out.2.bel⟩
        · obtain rfl : m = 0 := by omega
          have e0 : ((0 : Nat) : Int) - 1 = -1 := by omega
          rw [e0]
          have hfin : decide (s < t) = false := by
            obtain ⟨-, -, hs, ht, hfs, hft⟩ := HO.out
            subst hfs hft
            have hst : s < 0 ↔ t < 0 := by
              have h3 := HB.out.1.symm.trans HB.out.2
              simpa using h3
            simpa using lim_all hs ht hst (fun j hj => HH.out j (by omega) hj)
          have HF := Lib.hid (And.intro hfin hst.bel)
          clear hfin hst hlt
          go_wp2_with fail
          go_ret
          exact ⟨by rw [HF.out.1]; rfl, HF.out.2⟩
    | true =>
      go_wp2_with fail
      go_loopw [5] (fun i wr => ∃ (m : Nat), m ≤ 8 ∧ i = .int .i64 ((m : Int) - 1) ∧ (∀ j, m ≤ j → j < 8 → fs j = ft j) ∧ Own w [(x, 33, #[.int .i64 (fs 0), .int .i64 (fs 1), .int .i64 (fs 2), .int .i64 (fs 3), .int .i64 (fs 4), .int .i64 (fs 5), .int .i64 (fs 6), .int .i64 (fs 7)]), (x + 1, 33, #[.int .i64 (ft 0), .int .i64 (ft 1), .int .i64 (ft 2), .int .i64 (ft 3), .int .i64 (ft 4), .int .i64 (ft 5), .int .i64 (ft 6), .int .i64 (ft 7)])] wr) (fun i _ => ((intOf i) + 1).toNat)
      case atStart => exact ⟨8, Nat.le_refl _, rfl, fun j h1 h2 => by omega, H4.out⟩
      case round =>
        obtain ⟨m, hm, rfl, heq, hst⟩ := hrel
        have HH := Lib.hid heq
        clear heq
        by_cases hlt : 0 < m
        · obtain ⟨i, rfl⟩ : ∃ i, m = i + 1 := ⟨m - 1, by omega⟩
          have ei : ((i + 1 : Nat) : Int) - 1 = (i : Int) := by omega
          rw [ei]
          have hi8 : i < 8 := by omega
          have HW := Lib.hid (show wrap64 ((i : Int) - 1) = (i : Int) - 1 by unfold wrap64; omega)
          have HS := Lib.hid hst
          clear hst ei
          go_upto_region 6 with (fail)
          have hS : (Own w [(x, 33, #[.int .i64 (fs 0), .int .i64 (fs 1), .int .i64 (fs 2), .int .i64 (fs 3), .int .i64 (fs 4), .int .i64 (fs 5), .int .i64 (fs 6), .int .i64 (fs 7)]), (x + 1, 33, #[.int .i64 (ft 0), .int .i64 (ft 1), .int .i64 (ft 2), .int .i64 (ft 3), .int .i64 (ft 4), .int .i64 (ft 5), .int .i64 (ft 6), .int .i64 (ft 7)])]) (wr.drew) := HS.out.drew
          refine reg_start (Own w [(x, 33, #[.int .i64 (fs 0), .int .i64 (fs 1), .int .i64 (fs 2), .int .i64 (fs 3), .int .i64 (fs 4), .int .i64 (fs 5), .int .i64 (fs 6), .int .i64 (fs 7)]), (x + 1, 33, #[.int .i64 (ft 0), .int .i64 (ft 1), .int .i64 (ft 2), .int .i64 (ft 3), .int .i64 (ft 4), .int .i64 (ft 5), .int .i64 (ft 6), .int .i64 (ft 7)])]) (by kernel_rfl) hS ?_
          refine reg_take (i := 0) (v := ?_) rfl (by kernel_rfl) (by kernel_rfl) (by kernel_rfl) (fun _ _ _ h => h) (Or.inl ⟨by kernel_rfl, ?_⟩) hS ?_
          rotate_left
          · (intro w' hSw; go_simp <;> with_reducible rfl)
          try simp only [List.getElem_toArray, List.getElem_cons_succ, List.getElem_cons_zero, Act.put, List.setIfInBounds_toArray, List.set_cons_zero, List.set_cons_succ]
          refine reg_take (i := 1) (v := ?_) rfl (by kernel_rfl) (by kernel_rfl) (by kernel_rfl) (fun _ _ _ h => h) (Or.inl ⟨by kernel_rfl, ?_⟩) hS ?_
          rotate_left
          · (intro w' hSw; have hb8 : (i : Int) < 8 := (by omega); go_simp <;> with_reducible rfl)
          try simp only [List.getElem_toArray, List.getElem_cons_succ, List.getElem_cons_zero, Act.put, List.setIfInBounds_toArray, List.set_cons_zero, List.set_cons_succ]
          refine reg_take (i := 2) (v := ?_) rfl (by kernel_rfl) (by kernel_rfl) (by kernel_rfl) (fun _ _ _ h => h) (Or.inl ⟨by kernel_rfl, ?_⟩) hS ?_
          rotate_left
          · (intro w' hSw; have u0 : w'.cell? ⟨x, i, none⟩ = some (.int .i64 (fs i)) := (by rw [(hSw.get 0 rfl).cell i]; exact f8_get fs i hi8); go_simp <;> with_reducible rfl)
          try simp only [List.getElem_toArray, List.getElem_cons_succ, List.getElem_cons_zero, Act.put, List.setIfInBounds_toArray, List.set_cons_zero, List.set_cons_succ]
          refine reg_take (i := 3) (v := ?_) rfl (by kernel_rfl) (by kernel_rfl) (by kernel_rfl) (fun _ _ _ h => h) (Or.inl ⟨by kernel_rfl, ?_⟩) hS ?_
          rotate_left
          · (intro w' hSw; go_simp <;> with_reducible rfl)
          try simp only [List.getElem_toArray, List.getElem_cons_succ, List.getElem_cons_zero, Act.put, List.setIfInBounds_toArray, List.set_cons_zero, List.set_cons_succ]
          refine reg_take (i := 4) (v := ?_) rfl (by kernel_rfl) (by kernel_rfl) (by kernel_rfl) (fun _ _ _ h => h) (Or.inl ⟨by kernel_rfl, ?_⟩) hS ?_
          rotate_left
          · (intro w' hSw; have hb8 : (i : Int) < 8 := (by omega); go_simp <;> with_reducible rfl)
          try simp only [List.getElem_toArray, List.getElem_cons_succ, List.getElem_cons_zero, Act.put, List.setIfInBounds_toArray, List.set_cons_zero, List.set_cons_succ]
          refine reg_take (i := 5) (v := ?_) rfl (by kernel_rfl) (by kernel_rfl) (by kernel_rfl) (fun _ _ _ h => h) (Or.inl ⟨by kernel_rfl, ?_⟩) hS ?_
          rotate_left
          · (intro w' hSw; have u1 : w'.cell? ⟨x + 1, i, none⟩ = some (.int .i64 (ft i)) := (by rw [(hSw.get 1 rfl).cell i]; exact f8_get ft i hi8); go_simp <;> with_reducible rfl)
          try simp only [List.getElem_toArray, List.getElem_cons_succ, List.getElem_cons_zero, Act.put, List.setIfInBounds_toArray, List.set_cons_zero, List.set_cons_succ]
          refine reg_take (i := 6) (v := ?_) rfl (by kernel_rfl) (by kernel_rfl) (by kernel_rfl) (fun _ _ _ h => h) (Or.inl ⟨by kernel_rfl, ?_⟩) hS ?_
          rotate_left
          · (intro w' hSw; go_simp <;> with_reducible rfl)
          try simp only [List.getElem_toArray, List.getElem_cons_succ, List.getElem_cons_zero, Act.put, List.setIfInBounds_toArray, List.set_cons_zero, List.set_cons_succ]
          refine wpAnyH_done (by kernel_rfl) ?_ _
          try simp only [List.getElem_toArray, List.getElem_cons_succ, List.getElem_cons_zero]
          try simp only [List.getElem_toArray, List.getElem_cons_succ, List.getElem_cons_zero, Act.put, List.setIfInBounds_toArray, List.set_cons_zero, List.set_cons_succ]
          clear hS
          by_cases hne : fs i = ft i
          · have d2 : (fs i != ft i) = false := by simp [hne]
            have d3 : (fs i == ft i) = true := by simp [hne]
            have HNE := Lib.hid hne
            clear hne
            have hd := Lib.hid HS.out.drew
            go_wp2_with fail
            go_roundw
            case rel =>
              refine ⟨i, by omega, rfl, fun j h1 h2 => ?_, hd.out⟩
              rcases Nat.lt_or_ge i j with c | c
              · exact HH.out j (by omega) h2
              · have : j = i := by omega
                subst this
                exact HNE.out
            case measure => simp [intOf] <;> omega
          · have d2 : (fs i != ft i) = true := by simp [hne]
            have d3 : (fs i == ft i) = false := by simp [hne]
            have HNE := Lib.hid hne
            clear hne
            have hd := HS.out.drew
            generalize wr.drew = wd at hd ⊢
            have HD := Lib.hid hd
            clear hd
            go_upto_region 7 with (fail)
            have hS : (Own w [(x, 33, #[.int .i64 (fs 0), .int .i64 (fs 1), .int .i64 (fs 2), .int .i64 (fs 3), .int .i64 (fs 4), .int .i64 (fs 5), .int .i64 (fs 6), .int .i64 (fs 7)]), (x + 1, 33, #[.int .i64 (ft 0), .int .i64 (ft 1), .int .i64 (ft 2), .int .i64 (ft 3), .int .i64 (ft 4), .int .i64 (ft 5), .int .i64 (ft 6), .int .i64 (ft 7)])]) (wd.drew) := HD.out.drew
            refine reg_start (Own w [(x, 33, #[.int .i64 (fs 0), .int .i64 (fs 1), .int .i64 (fs 2), .int .i64 (fs 3), .int .i64 (fs 4), .int .i64 (fs 5), .int .i64 (fs 6), .int .i64 (fs 7)]), (x + 1, 33, #[.int .i64 (ft 0), .int .i64 (ft 1), .int .i64 (ft 2), .int .i64 (ft 3), .int .i64 (ft 4), .int .i64 (ft 5), .int .i64 (ft 6), .int .i64 (ft 7)])]) (by kernel_rfl) hS ?_
            refine reg_take (i := 0) (v := ?_) rfl (by kernel_rfl) (by kernel_rfl) (by kernel_rfl) (fun _ _ _ h => h) (Or.inl ⟨by kernel_rfl, ?_⟩) hS ?_
            rotate_left
            · (intro w' hSw; go_simp <;> with_reducible rfl)
            try simp only [List.getElem_toArray, List.getElem_cons_succ, List.getElem_cons_zero, Act.put, List.setIfInBounds_toArray, List.set_cons_zero, List.set_cons_succ]
            refine reg_take (i := 1) (v := ?_) rfl (by kernel_rfl) (by kernel_rfl) (by kernel_rfl) (fun _ _ _ h => h) (Or.inl ⟨by kernel_rfl, ?_⟩) hS ?_
            rotate_left
            · (intro w' hSw; have hb8 : (i : Int) < 8 := (by omega); go_simp <;> with_reducible rfl)
            try simp only [List.getElem_toArray, List.getElem_cons_succ, List.getElem_cons_zero, Act.put, List.setIfInBounds_toArray, List.set_cons_zero, List.set_cons_succ]
            refine reg_take (i := 2) (v := ?_) rfl (by kernel_rfl) (by kernel_rfl) (by kernel_rfl) (fun _ _ _ h => h) (Or.inl ⟨by kernel_rfl, ?_⟩) hS ?_
            rotate_left
            · (intro w' hSw; have u0 : w'.cell? ⟨x, i, none⟩ = some (.int .i64 (fs i)) := (by rw [(hSw.get 0 rfl).cell i]; exact f8_get fs i hi8); go_simp <;> with_reducible rfl)
            try simp only [List.getElem_toArray, List.getElem_cons_succ, List.getElem_cons_zero, Act.put, List.setIfInBounds_toArray, List.set_cons_zero, List.set_cons_succ]
            refine reg_take (i := 3) (v := ?_) rfl (by kernel_rfl) (by kernel_rfl) (by kernel_rfl) (fun _ _ _ h => h) (Or.inl ⟨by kernel_rfl, ?_⟩) hS ?_
            rotate_left
            · (intro w' hSw; go_simp <;> with_reducible rfl)
            try simp only [List.getElem_toArray, List.getElem_cons_succ, List.getElem_cons_zero, Act.put, List.setIfInBounds_toArray, List.set_cons_zero, List.set_cons_succ]
            refine reg_take (i := 4) (v := ?_) rfl (by kernel_rfl) (by kernel_rfl) (by kernel_rfl) (fun _ _ _ h => h) (Or.inl ⟨by kernel_rfl, ?_⟩) hS ?_
            rotate_left
            · (intro w' hSw; have hb8 : (i : Int) < 8 := (by omega); go_simp <;> with_reducible rfl)
            try simp only [List.getElem_toArray, List.getElem_cons_succ, List.getElem_cons_zero, Act.put, List.setIfInBounds_toArray, List.set_cons_zero, List.set_cons_succ]
            refine reg_take (i := 5) (v := ?_) rfl (by kernel_rfl) (by kernel_rfl) (by kernel_rfl) (fun _ _ _ h => h) (Or.inl ⟨by kernel_rfl, ?_⟩) hS ?_
            rotate_left
            · (intro w' hSw; have u1 : w'.cell? ⟨x + 1, i, none⟩ = some (.int .i64 (ft i)) := (by rw [(hSw.get 1 rfl).cell i]; exact f8_get ft i hi8); go_simp <;> with_reducible rfl)
            try simp only [List.getElem_toArray, List.getElem_cons_succ, List.getElem_cons_zero, Act.put, List.setIfInBounds_toArray, List.set_cons_zero, List.set_cons_succ]
            refine reg_take (i := 6) (v := ?_) rfl (by kernel_rfl) (by kernel_rfl) (by kernel_rfl) (fun _ _ _ h => h) (Or.inl ⟨by kernel_rfl, ?_⟩) hS ?_
            rotate_left
            · (intro w' hSw; go_simp <;> with_reducible rfl)
            try simp only [List.getElem_toArray, List.getElem_cons_succ, List.getElem_cons_zero, Act.put, List.setIfInBounds_toArray, List.set_cons_zero, List.set_cons_succ]
            refine reg_take (i := 7) (v := ?_) rfl (by kernel_rfl) (by kernel_rfl) (by kernel_rfl) (fun _ _ _ h => h) (Or.inl ⟨by kernel_rfl, ?_⟩) hS ?_
            rotate_left
            · (intro w' hSw; go_simp <;> with_reducible rfl)
            try simp only [List.getElem_toArray, List.getElem_cons_succ, List.getElem_cons_zero, Act.put, List.setIfInBounds_toArray, List.set_cons_zero, List.set_cons_succ]
            refine wpAnyH_done (by kernel_rfl) ?_ _
            try simp only [List.getElem_toArray, List.getElem_cons_succ, List.getElem_cons_zero]
            try simp only [List.getElem_toArray, List.getElem_cons_succ, List.getElem_cons_zero, Act.put, List.setIfInBounds_toArray, List.set_cons_zero, List.set_cons_succ]
            clear hS
            have hfin : decide (fs i < ft i) = decide (s < t) := by
              obtain ⟨-, -, hs, ht, hfs, hft⟩ := HO.out
              subst hfs hft
              have hst : s < 0 ↔ t < 0 := by
                have h3 := HB.out.1.symm.trans HB.out.2
                simpa using h3
              simp only [lim_lt hs ht hst i hi8 HH.out HNE.out]
            have HF := Lib.hid (And.intro hfin HD.out.drew)
            clear hfin
            go_wp2_with fail
            go_ret
            exact ⟨by rw [← HF.out.1]; rfl, HF.out.2.bel⟩
        · obtain rfl : m = 0 := by omega
          have e0 : ((0 : Nat) : Int) - 1 = -1 := by omega
          rw [e0]
          have hfin : decide (s < t) = false := by
            obtain ⟨-, -, hs, ht, hfs, hft⟩ := HO.out
            subst hfs hft
            have hst : s < 0 ↔ t < 0 := by
              have h3 := HB.out.1.symm.trans HB.out.2
              simpa using h3
            simpa using lim_all hs ht hst (fun j hj => HH.out j (by omega) hj)
          have HF := Lib.hid (And.intro hfin hst.bel)
          clear hfin hst hlt
          go_wp2_with fail
          go_ret
          exact ⟨by rw [HF.out.1]; rfl, HF.out.2⟩
  · skip
    have hfin : b1 = decide (s < t) := by
      have h1 := HB.out.1
      have h2 := HB.out.2
      by_cases c1 : s < 0
      · by_cases c2 : t < 0
        · exact absurd (by rw [h1, h2]; simp [c1, c2]) hbb
        · rw [h1]; simp [c1]; omega
      · by_cases c2 : t < 0
        · rw [h1]; simp [c1]; omega
        · exact absurd (by rw [h1, h2]; simp [c1, c2]) hbb
    have HE := Lib.hid hfin
    clear hfin
    cases b1 with
    | false =>
      cases b2 with
      | false => exact absurd rfl hbb
      | true =>
        clear hbb
        have h4 := H4.out
        have z0_0 := h4.cell 0 0 rfl rfl; have z0_1 := h4.cell 0 1 rfl rfl; have z0_2 := h4.cell 0 2 rfl rfl; have z0_3 := h4.cell 0 3 rfl rfl; have z0_4 := h4.cell 0 4 rfl rfl; have z0_5 := h4.cell 0 5 rfl rfl; have z0_6 := h4.cell 0 6 rfl rfl; have z0_7 := h4.cell 0 7 rfl rfl
        clear h4
        go_wp2_with fail
        refine (HN.out.1 _).mono ?_
        rintro e w5 ⟨rfl, h5⟩
        have HF := Lib.hid (H4.out.call h5).bel
        clear h5
        go_wp2_with fail
        go_ret
        exact ⟨by rw [← HE.out]; rfl, HF.out⟩
    | true =>
      cases b2 with
      | true => exact absurd rfl hbb
      | false =>
        clear hbb
        have h4 := H4.out
        have z0_0 := h4.cell 0 0 rfl rfl; have z0_1 := h4.cell 0 1 rfl rfl; have z0_2 := h4.cell 0 2 rfl rfl; have z0_3 := h4.cell 0 3 rfl rfl; have z0_4 := h4.cell 0 4 rfl rfl; have z0_5 := h4.cell 0 5 rfl rfl; have z0_6 := h4.cell 0 6 rfl rfl; have z0_7 := h4.cell 0 7 rfl rfl
        clear h4
        go_wp2_with fail
        refine (HN.out.1 _).mono ?_
        rintro e w5 ⟨rfl, h5⟩
        have HF := Lib.hid (H4.out.call h5).bel
        clear h5
        go_wp2_with fail
        go_ret
        exact ⟨by rw [← HE.out]; rfl, HF.out⟩
end Go.Proofs.YthhgnngpaagagaaDoor
