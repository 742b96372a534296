/-
  The contract of tidemillref07.Add. (Printed by genLmB.py, then mk.py.)
-/
import Derived.Test.YthhgnngpaagagaaDoorLmA
namespace Go.Proofs.YthhgnngpaagagaaDoor
open Go.RowKit
set_option linter.unusedVariables false
set_option linter.unusedSimpArgs false
theorem la_call {w w' : World} {L : List (Nat × TypeId × Array Value)} (h : Own w L w') (u : Int) (b : Bool) (hu : S128 u) (hb : decide (u < 0) = b) :
    Calls Tryd.prog 47 #[.agg #[.int .i64 (lim (u) 0), .int .i64 (lim (u) 1), .int .i64 (lim (u) 2), .int .i64 (lim (u) 3), .int .i64 (lim (u) 4), .int .i64 (lim (u) 5), .int .i64 (lim (u) 6), .int .i64 (lim (u) 7)]] w' fun e w'' => e = .returned (.bool b) ∧ Own w L w'' := by
  refine (negative_any u hu _).mono ?_
  rintro e w'' ⟨rfl, hb'⟩
  exact ⟨by rw [hb], h.call hb'⟩
def RaddPost (s t : Int) (w : World) (e : Ending) (w' : World) : Prop :=
  ((S128 (s + t) ∧ e = .returned (.tuple #[.agg #[.int .i64 (lim ((s + t)) 0), .int .i64 (lim ((s + t)) 1), .int .i64 (lim ((s + t)) 2), .int .i64 (lim ((s + t)) 3), .int .i64 (lim ((s + t)) 4), .int .i64 (lim ((s + t)) 5), .int .i64 (lim ((s + t)) 6), .int .i64 (lim ((s + t)) 7)], .bool true])) ∨ (¬ S128 (s + t) ∧ e = .returned (.tuple #[.agg #[.int .i64 0, .int .i64 0, .int .i64 0, .int .i64 0, .int .i64 0, .int .i64 0, .int .i64 0, .int .i64 0], .bool false]))) ∧ Below w.heap.size w w'
def laL (x y : Nat) (s t v : Int) : List (Nat × TypeId × Array Value) := [(x, 33, #[.int .i64 (lim (s) 0), .int .i64 (lim (s) 1), .int .i64 (lim (s) 2), .int .i64 (lim (s) 3), .int .i64 (lim (s) 4), .int .i64 (lim (s) 5), .int .i64 (lim (s) 6), .int .i64 (lim (s) 7)]), (x + 1, 33, #[.int .i64 (lim (t) 0), .int .i64 (lim (t) 1), .int .i64 (lim (t) 2), .int .i64 (lim (t) 3), .int .i64 (lim (t) 4), .int .i64 (lim (t) 5), .int .i64 (lim (t) 6), .int .i64 (lim (t) 7)]), (x + 1 + 1, 33, #[.int .i64 0, .int .i64 0, .int .i64 0, .int .i64 0, .int .i64 0, .int .i64 0, .int .i64 0, .int .i64 0]), (y, 33, #[.int .i64 (lim (v) 0), .int .i64 (lim (v) 1), .int .i64 (lim (v) 2), .int .i64 (lim (v) 3), .int .i64 (lim (v) 4), .int .i64 (lim (v) 5), .int .i64 (lim (v) 6), .int .i64 (lim (v) 7)])]
set_option maxRecDepth 100000 in
set_option maxHeartbeats 16000000 in
theorem radd_any (s t : Int) (hs : S128 s) (ht : S128 t) (w : World) : Calls Tryd.prog 46 #[.agg #[.int .i64 (lim (s) 0), .int .i64 (lim (s) 1), .int .i64 (lim (s) 2), .int .i64 (lim (s) 3), .int .i64 (lim (s) 4), .int .i64 (lim (s) 5), .int .i64 (lim (s) 6), .int .i64 (lim (s) 7)], .agg #[.int .i64 (lim (t) 0), .int .i64 (lim (t) 1), .int .i64 (lim (t) 2), .int .i64 (lim (t) 3), .int .i64 (lim (t) 4), .int .i64 (lim (t) 5), .int .i64 (lim (t) 6), .int .i64 (lim (t) 7)]] w (RaddPost s t w) := by
  have HH := Lib.hid (And.intro hs ht)
  clear hs ht
  go_enter Tryd.func46, Tryd.ntmps46
  go_wp2_with fail
  refine (rplus_any s t _).mono ?_
  rintro e w1 ⟨rfl, hb1⟩
  obtain ⟨x, hx⟩ : ∃ x, x = w.heap.size := ⟨_, rfl⟩
  obtain ⟨y, hy⟩ : ∃ y, y = w1.heap.size := ⟨_, rfl⟩
  obtain ⟨v, hv⟩ : ∃ v, v = wrp (s + t) := ⟨_, rfl⟩
  have HW := Lib.hid (show S128 v by rw [hv]; exact wrp_s _)
  have hlv : ∀ i, i < 8 → lim (s + t) i = lim v i := fun i hi => by rw [hv, lim_wrp _ i hi]
  rw [hlv 0 (by omega), hlv 1 (by omega), hlv 2 (by omega), hlv 3 (by omega), hlv 4 (by omega), hlv 5 (by omega), hlv 6 (by omega), hlv 7 (by omega)]
  clear hlv
  have o2 : Own w (laL x y s t v) (w1.alloc (.cells #[.int .i64 (lim (v) 0), .int .i64 (lim (v) 1), .int .i64 (lim (v) 2), .int .i64 (lim (v) 3), .int .i64 (lim (v) 4), .int .i64 (lim (v) 5), .int .i64 (lim (v) 6), .int .i64 (lim (v) 7)] 33)).drew := (((Own.own3 w hx _ _ _ _ _ _).call hb1).alloc hy _ _).drew
  have hfits : (0 ≤ s → t < 0 → S128 (s + t)) ∧ (s < 0 → 0 ≤ t → S128 (s + t)) ∧ (s < 0 → t < 0 → (v < 0 ↔ S128 (s + t))) ∧ (0 ≤ s → 0 ≤ t → (0 ≤ v ↔ S128 (s + t))) ∧ (S128 (s + t) → v = s + t) := by
    obtain ⟨h1, h2⟩ := HH.out
    refine ⟨?_, ?_, ?_, ?_, ?_⟩
    · unfold S128 at *; omega
    · unfold S128 at *; omega
    · rw [hv]; unfold S128 wrp at *; omega
    · rw [hv]; unfold S128 wrp at *; omega
    · intro h; rw [hv]; exact wrp_id h
  have HV := Lib.hid (And.intro hx (And.intro hy hfits))
  have H2 := Lib.hid o2
  clear o2 hx hy hv hb1 hfits
  go_wp2_with fail
  rw [← HV.out.1, ← HV.out.2.1]
  have hS1 := H2.out
  generalize (w1.alloc (.cells #[.int .i64 (lim (v) 0), .int .i64 (lim (v) 1), .int .i64 (lim (v) 2), .int .i64 (lim (v) 3), .int .i64 (lim (v) 4), .int .i64 (lim (v) 5), .int .i64 (lim (v) 6), .int .i64 (lim (v) 7)] 33)) = w2 at hS1 ⊢
  clear H2
  by_cases hs0 : s < 0
  · by_cases ht0 : t < 0
    · skip
      by_cases hv0 : v < 0
      · have hfit := (HV.out.2.2.2.2.1 hs0 ht0).1 hv0
        have HF := Lib.hid hfit
        clear hfit
        have hS : (Own w (laL x y s t v)) (w2.drew) := hS1
        refine reg_start (Own w (laL x y s t v)) (by kernel_rfl) hS ?_
        refine reg_take (i := 0) (v := ?_) rfl (by kernel_rfl) (by kernel_rfl) (by kernel_rfl) (fun _ _ _ h => h) (Or.inl ⟨by kernel_rfl, ?_⟩) hS ?_
        rotate_left
        · (intro w' hSw; have z0_0 := hSw.cell 0 0 rfl rfl; have z0_1 := hSw.cell 0 1 rfl rfl; have z0_2 := hSw.cell 0 2 rfl rfl; have z0_3 := hSw.cell 0 3 rfl rfl; have z0_4 := hSw.cell 0 4 rfl rfl; have z0_5 := hSw.cell 0 5 rfl rfl; have z0_6 := hSw.cell 0 6 rfl rfl; have z0_7 := hSw.cell 0 7 rfl rfl; go_simp <;> with_reducible rfl)
        try simp only [List.getElem_toArray, List.getElem_cons_succ, List.getElem_cons_zero, Act.put, List.setIfInBounds_toArray, List.set_cons_zero, List.set_cons_succ]
        refine reg_take (i := 2) (v := ?_) rfl (by kernel_rfl) (by kernel_rfl) (by kernel_rfl) (fun _ _ _ h => h) (Or.inl ⟨by kernel_rfl, ?_⟩) hS ?_
        rotate_left
        · (intro w' hSw; have z1_0 := hSw.cell 1 0 rfl rfl; have z1_1 := hSw.cell 1 1 rfl rfl; have z1_2 := hSw.cell 1 2 rfl rfl; have z1_3 := hSw.cell 1 3 rfl rfl; have z1_4 := hSw.cell 1 4 rfl rfl; have z1_5 := hSw.cell 1 5 rfl rfl; have z1_6 := hSw.cell 1 6 rfl rfl; have z1_7 := hSw.cell 1 7 rfl rfl; go_simp <;> with_reducible rfl)
        try simp only [List.getElem_toArray, List.getElem_cons_succ, List.getElem_cons_zero, Act.put, List.setIfInBounds_toArray, List.set_cons_zero, List.set_cons_succ]
        refine reg_call (i := 1) rfl (by kernel_rfl) (fun K hK => ?_)
        have HK := Lib.hid hK
        clear hK
        go_simp
        refine (la_call hS s true HH.out.1 (by simp; omega)).mono ?_
        rintro e w3 ⟨rfl, h3⟩
        have H3 := Lib.hid h3
        clear h3
        go_wp2_with fail
        refine HK.out.to (Own w (laL x y s t v)) (fun _ h => h) (H3.out) ?_
        clear HK hS
        have hS : (Own w (laL x y s t v)) (w3) := H3.out
        try simp only [List.getElem_toArray, List.getElem_cons_succ, List.getElem_cons_zero, Act.put, List.setIfInBounds_toArray, List.set_cons_zero, List.set_cons_succ]
        refine reg_call (i := 3) rfl (by kernel_rfl) (fun K hK => ?_)
        have HK := Lib.hid hK
        clear hK
        go_simp
        refine (la_call hS t true HH.out.2 (by simp; omega)).mono ?_
        rintro e w4 ⟨rfl, h4⟩
        have H4 := Lib.hid h4
        clear h4
        go_wp2_with fail
        refine HK.out.to (Own w (laL x y s t v)) (fun _ h => h) (H4.out) ?_
        clear HK hS
        have hS : (Own w (laL x y s t v)) (w4) := H4.out
        try simp only [List.getElem_toArray, List.getElem_cons_succ, List.getElem_cons_zero, Act.put, List.setIfInBounds_toArray, List.set_cons_zero, List.set_cons_succ]
        refine reg_take (i := 4) (v := ?_) rfl (by kernel_rfl) (by kernel_rfl) (by kernel_rfl) (fun _ _ _ h => h) (Or.inl ⟨by kernel_rfl, ?_⟩) hS ?_
        rotate_left
        · (intro w' hSw; go_simp <;> with_reducible rfl)
        try simp only [List.getElem_toArray, List.getElem_cons_succ, List.getElem_cons_zero, Act.put, List.setIfInBounds_toArray, List.set_cons_zero, List.set_cons_succ]
        refine reg_take (i := 5) (v := ?_) rfl (by kernel_rfl) (by kernel_rfl) (by kernel_rfl) (fun _ _ _ h => h) (Or.inl ⟨by kernel_rfl, ?_⟩) hS ?_
        rotate_left
        · (intro w' hSw; go_simp <;> with_reducible rfl)
        try simp only [List.getElem_toArray, List.getElem_cons_succ, List.getElem_cons_zero, Act.put, List.setIfInBounds_toArray, List.set_cons_zero, List.set_cons_succ]
        refine reg_take (i := 6) (v := ?_) rfl (by kernel_rfl) (by kernel_rfl) (by kernel_rfl) (fun _ _ _ h => h) (Or.inl ⟨by kernel_rfl, ?_⟩) hS ?_
        rotate_left
        · (intro w' hSw; have z3_0 := hSw.cell 3 0 rfl rfl; have z3_1 := hSw.cell 3 1 rfl rfl; have z3_2 := hSw.cell 3 2 rfl rfl; have z3_3 := hSw.cell 3 3 rfl rfl; have z3_4 := hSw.cell 3 4 rfl rfl; have z3_5 := hSw.cell 3 5 rfl rfl; have z3_6 := hSw.cell 3 6 rfl rfl; have z3_7 := hSw.cell 3 7 rfl rfl; go_simp <;> with_reducible rfl)
        try simp only [List.getElem_toArray, List.getElem_cons_succ, List.getElem_cons_zero, Act.put, List.setIfInBounds_toArray, List.set_cons_zero, List.set_cons_succ]
        refine reg_take (i := 8) (v := ?_) rfl (by kernel_rfl) (by kernel_rfl) (by kernel_rfl) (fun _ _ _ h => h) (Or.inl ⟨by kernel_rfl, ?_⟩) hS ?_
        rotate_left
        · (intro w' hSw; have z0_0 := hSw.cell 0 0 rfl rfl; have z0_1 := hSw.cell 0 1 rfl rfl; have z0_2 := hSw.cell 0 2 rfl rfl; have z0_3 := hSw.cell 0 3 rfl rfl; have z0_4 := hSw.cell 0 4 rfl rfl; have z0_5 := hSw.cell 0 5 rfl rfl; have z0_6 := hSw.cell 0 6 rfl rfl; have z0_7 := hSw.cell 0 7 rfl rfl; go_simp <;> with_reducible rfl)
        try simp only [List.getElem_toArray, List.getElem_cons_succ, List.getElem_cons_zero, Act.put, List.setIfInBounds_toArray, List.set_cons_zero, List.set_cons_succ]
        refine reg_call (i := 7) rfl (by kernel_rfl) (fun K hK => ?_)
        have HK := Lib.hid hK
        clear hK
        go_simp
        refine (la_call hS v true HW.out (by simp; omega)).mono ?_
        rintro e w5 ⟨rfl, h5⟩
        have H5 := Lib.hid h5
        clear h5
        go_wp2_with fail
        refine HK.out.to (Own w (laL x y s t v)) (fun _ h => h) (H5.out) ?_
        clear HK hS
        have hS : (Own w (laL x y s t v)) (w5) := H5.out
        try simp only [List.getElem_toArray, List.getElem_cons_succ, List.getElem_cons_zero, Act.put, List.setIfInBounds_toArray, List.set_cons_zero, List.set_cons_succ]
        refine reg_call (i := 9) rfl (by kernel_rfl) (fun K hK => ?_)
        have HK := Lib.hid hK
        clear hK
        go_simp
        refine (la_call hS s true HH.out.1 (by simp; omega)).mono ?_
        rintro e w6 ⟨rfl, h6⟩
        have H6 := Lib.hid h6
        clear h6
        go_wp2_with fail
        refine HK.out.to (Own w (laL x y s t v)) (fun _ h => h) (H6.out) ?_
        clear HK hS
        have hS : (Own w (laL x y s t v)) (w6) := H6.out
        try simp only [List.getElem_toArray, List.getElem_cons_succ, List.getElem_cons_zero, Act.put, List.setIfInBounds_toArray, List.set_cons_zero, List.set_cons_succ]
        refine reg_take (i := 10) (v := ?_) rfl (by kernel_rfl) (by kernel_rfl) (by kernel_rfl) (fun _ _ _ h => h) (Or.inl ⟨by kernel_rfl, ?_⟩) hS ?_
        rotate_left
        · (intro w' hSw; go_simp <;> with_reducible rfl)
        try simp only [List.getElem_toArray, List.getElem_cons_succ, List.getElem_cons_zero, Act.put, List.setIfInBounds_toArray, List.set_cons_zero, List.set_cons_succ]
        refine reg_take (i := 11) (v := ?_) rfl (by kernel_rfl) (by kernel_rfl) (by kernel_rfl) (fun _ _ _ h => h) (Or.inl ⟨by kernel_rfl, ?_⟩) hS ?_
        rotate_left
        · (intro w' hSw; go_simp <;> with_reducible rfl)
        try simp only [List.getElem_toArray, List.getElem_cons_succ, List.getElem_cons_zero, Act.put, List.setIfInBounds_toArray, List.set_cons_zero, List.set_cons_succ]
        refine wpAnyH_done (by kernel_rfl) ?_ _
        try simp only [List.getElem_toArray, List.getElem_cons_succ, List.getElem_cons_zero]
        try simp only [List.getElem_toArray, List.getElem_cons_succ, List.getElem_cons_zero, Act.put, List.setIfInBounds_toArray, List.set_cons_zero, List.set_cons_succ]
        have hfit := HF.out
        have z2_0 := hS.cell 2 0 rfl rfl; have z2_1 := hS.cell 2 1 rfl rfl; have z2_2 := hS.cell 2 2 rfl rfl; have z2_3 := hS.cell 2 3 rfl rfl; have z2_4 := hS.cell 2 4 rfl rfl; have z2_5 := hS.cell 2 5 rfl rfl; have z2_6 := hS.cell 2 6 rfl rfl; have z2_7 := hS.cell 2 7 rfl rfl; have z3_0 := hS.cell 3 0 rfl rfl; have z3_1 := hS.cell 3 1 rfl rfl; have z3_2 := hS.cell 3 2 rfl rfl; have z3_3 := hS.cell 3 3 rfl rfl; have z3_4 := hS.cell 3 4 rfl rfl; have z3_5 := hS.cell 3 5 rfl rfl; have z3_6 := hS.cell 3 6 rfl rfl; have z3_7 := hS.cell 3 7 rfl rfl
        have zf2 := hS.free 2 rfl
        have HS := Lib.hid hS
        clear hS
        go_wp2_with fail
        have r := ((((((((HS.out.set 2 0 rfl (.int .i64 (lim v 0))).set 2 1 rfl (.int .i64 (lim v 1))).set 2 2 rfl (.int .i64 (lim v 2))).set 2 3 rfl (.int .i64 (lim v 3))).set 2 4 rfl (.int .i64 (lim v 4))).set 2 5 rfl (.int .i64 (lim v 5))).set 2 6 rfl (.int .i64 (lim v 6))).set 2 7 rfl (.int .i64 (lim v 7)))
        have r0 := r.cell 2 0 rfl rfl
        have r1 := r.cell 2 1 rfl rfl
        have r2 := r.cell 2 2 rfl rfl
        have r3 := r.cell 2 3 rfl rfl
        have r4 := r.cell 2 4 rfl rfl
        have r5 := r.cell 2 5 rfl rfl
        have r6 := r.cell 2 6 rfl rfl
        have r7 := r.cell 2 7 rfl rfl
        exact bodyPost_ret (v := .tuple #[.agg #[.int .i64 (lim (v) 0), .int .i64 (lim (v) 1), .int .i64 (lim (v) 2), .int .i64 (lim (v) 3), .int .i64 (lim (v) 4), .int .i64 (lim (v) 5), .int .i64 (lim (v) 6), .int .i64 (lim (v) 7)], .bool true]) (by simp [results, Tryd.results46, go_sem, r0, r1, r2, r3, r4, r5, r6, r7]) rfl ⟨.inl ⟨hfit, by rw [HV.out.2.2.2.2.2.2 hfit]⟩, r.bel⟩
      · have hfit : ¬ S128 (s + t) := fun h => hv0 ((HV.out.2.2.2.2.1 hs0 ht0).2 h)
        have HF := Lib.hid hfit
        clear hfit
        have hS : (Own w (laL x y s t v)) (w2.drew) := hS1
        refine reg_start (Own w (laL x y s t v)) (by kernel_rfl) hS ?_
        refine reg_take (i := 0) (v := ?_) rfl (by kernel_rfl) (by kernel_rfl) (by kernel_rfl) (fun _ _ _ h => h) (Or.inl ⟨by kernel_rfl, ?_⟩) hS ?_
        rotate_left
        · (intro w' hSw; have z0_0 := hSw.cell 0 0 rfl rfl; have z0_1 := hSw.cell 0 1 rfl rfl; have z0_2 := hSw.cell 0 2 rfl rfl; have z0_3 := hSw.cell 0 3 rfl rfl; have z0_4 := hSw.cell 0 4 rfl rfl; have z0_5 := hSw.cell 0 5 rfl rfl; have z0_6 := hSw.cell 0 6 rfl rfl; have z0_7 := hSw.cell 0 7 rfl rfl; go_simp <;> with_reducible rfl)
        try simp only [List.getElem_toArray, List.getElem_cons_succ, List.getElem_cons_zero, Act.put, List.setIfInBounds_toArray, List.set_cons_zero, List.set_cons_succ]
        refine reg_take (i := 2) (v := ?_) rfl (by kernel_rfl) (by kernel_rfl) (by kernel_rfl) (fun _ _ _ h => h) (Or.inl ⟨by kernel_rfl, ?_⟩) hS ?_
        rotate_left
        · (intro w' hSw; have z1_0 := hSw.cell 1 0 rfl rfl; have z1_1 := hSw.cell 1 1 rfl rfl; have z1_2 := hSw.cell 1 2 rfl rfl; have z1_3 := hSw.cell 1 3 rfl rfl; have z1_4 := hSw.cell 1 4 rfl rfl; have z1_5 := hSw.cell 1 5 rfl rfl; have z1_6 := hSw.cell 1 6 rfl rfl; have z1_7 := hSw.cell 1 7 rfl rfl; go_simp <;> with_reducible rfl)
        try simp only [List.getElem_toArray, List.getElem_cons_succ, List.getElem_cons_zero, Act.put, List.setIfInBounds_toArray, List.set_cons_zero, List.set_cons_succ]
        refine reg_call (i := 1) rfl (by kernel_rfl) (fun K hK => ?_)
        have HK := Lib.hid hK
        clear hK
        go_simp
        refine (la_call hS s true HH.out.1 (by simp; omega)).mono ?_
        rintro e w3 ⟨rfl, h3⟩
        have H3 := Lib.hid h3
        clear h3
        go_wp2_with fail
        refine HK.out.to (Own w (laL x y s t v)) (fun _ h => h) (H3.out) ?_
        clear HK hS
        have hS : (Own w (laL x y s t v)) (w3) := H3.out
        try simp only [List.getElem_toArray, List.getElem_cons_succ, List.getElem_cons_zero, Act.put, List.setIfInBounds_toArray, List.set_cons_zero, List.set_cons_succ]
        refine reg_call (i := 3) rfl (by kernel_rfl) (fun K hK => ?_)
        have HK := Lib.hid hK
        clear hK
        go_simp
        refine (la_call hS t true HH.out.2 (by simp; omega)).mono ?_
        rintro e w4 ⟨rfl, h4⟩
        have H4 := Lib.hid h4
        clear h4
        go_wp2_with fail
        refine HK.out.to (Own w (laL x y s t v)) (fun _ h => h) (H4.out) ?_
        clear HK hS
        have hS : (Own w (laL x y s t v)) (w4) := H4.out
        try simp only [List.getElem_toArray, List.getElem_cons_succ, List.getElem_cons_zero, Act.put, List.setIfInBounds_toArray, List.set_cons_zero, List.set_cons_succ]
        refine reg_take (i := 4) (v := ?_) rfl (by kernel_rfl) (by kernel_rfl) (by kernel_rfl) (fun _ _ _ h => h) (Or.inl ⟨by kernel_rfl, ?_⟩) hS ?_
        rotate_left
        · (intro w' hSw; go_simp <;> with_reducible rfl)
        try simp only [List.getElem_toArray, List.getElem_cons_succ, List.getElem_cons_zero, Act.put, List.setIfInBounds_toArray, List.set_cons_zero, List.set_cons_succ]
        refine reg_take (i := 5) (v := ?_) rfl (by kernel_rfl) (by kernel_rfl) (by kernel_rfl) (fun _ _ _ h => h) (Or.inl ⟨by kernel_rfl, ?_⟩) hS ?_
        rotate_left
        · (intro w' hSw; go_simp <;> with_reducible rfl)
        try simp only [List.getElem_toArray, List.getElem_cons_succ, List.getElem_cons_zero, Act.put, List.setIfInBounds_toArray, List.set_cons_zero, List.set_cons_succ]
        refine reg_take (i := 6) (v := ?_) rfl (by kernel_rfl) (by kernel_rfl) (by kernel_rfl) (fun _ _ _ h => h) (Or.inl ⟨by kernel_rfl, ?_⟩) hS ?_
        rotate_left
        · (intro w' hSw; have z3_0 := hSw.cell 3 0 rfl rfl; have z3_1 := hSw.cell 3 1 rfl rfl; have z3_2 := hSw.cell 3 2 rfl rfl; have z3_3 := hSw.cell 3 3 rfl rfl; have z3_4 := hSw.cell 3 4 rfl rfl; have z3_5 := hSw.cell 3 5 rfl rfl; have z3_6 := hSw.cell 3 6 rfl rfl; have z3_7 := hSw.cell 3 7 rfl rfl; go_simp <;> with_reducible rfl)
        try simp only [List.getElem_toArray, List.getElem_cons_succ, List.getElem_cons_zero, Act.put, List.setIfInBounds_toArray, List.set_cons_zero, List.set_cons_succ]
        refine reg_take (i := 8) (v := ?_) rfl (by kernel_rfl) (by kernel_rfl) (by kernel_rfl) (fun _ _ _ h => h) (Or.inl ⟨by kernel_rfl, ?_⟩) hS ?_
        rotate_left
        · (intro w' hSw; have z0_0 := hSw.cell 0 0 rfl rfl; have z0_1 := hSw.cell 0 1 rfl rfl; have z0_2 := hSw.cell 0 2 rfl rfl; have z0_3 := hSw.cell 0 3 rfl rfl; have z0_4 := hSw.cell 0 4 rfl rfl; have z0_5 := hSw.cell 0 5 rfl rfl; have z0_6 := hSw.cell 0 6 rfl rfl; have z0_7 := hSw.cell 0 7 rfl rfl; go_simp <;> with_reducible rfl)
        try simp only [List.getElem_toArray, List.getElem_cons_succ, List.getElem_cons_zero, Act.put, List.setIfInBounds_toArray, List.set_cons_zero, List.set_cons_succ]
        refine reg_call (i := 7) rfl (by kernel_rfl) (fun K hK => ?_)
        have HK := Lib.hid hK
        clear hK
        go_simp
        refine (la_call hS v false HW.out (by simp; omega)).mono ?_
        rintro e w5 ⟨rfl, h5⟩
        have H5 := Lib.hid h5
        clear h5
        go_wp2_with fail
        refine HK.out.to (Own w (laL x y s t v)) (fun _ h => h) (H5.out) ?_
        clear HK hS
        have hS : (Own w (laL x y s t v)) (w5) := H5.out
        try simp only [List.getElem_toArray, List.getElem_cons_succ, List.getElem_cons_zero, Act.put, List.setIfInBounds_toArray, List.set_cons_zero, List.set_cons_succ]
        refine reg_call (i := 9) rfl (by kernel_rfl) (fun K hK => ?_)
        have HK := Lib.hid hK
        clear hK
        go_simp
        refine (la_call hS s true HH.out.1 (by simp; omega)).mono ?_
        rintro e w6 ⟨rfl, h6⟩
        have H6 := Lib.hid h6
        clear h6
        go_wp2_with fail
        refine HK.out.to (Own w (laL x y s t v)) (fun _ h => h) (H6.out) ?_
        clear HK hS
        have hS : (Own w (laL x y s t v)) (w6) := H6.out
        try simp only [List.getElem_toArray, List.getElem_cons_succ, List.getElem_cons_zero, Act.put, List.setIfInBounds_toArray, List.set_cons_zero, List.set_cons_succ]
        refine reg_take (i := 10) (v := ?_) rfl (by kernel_rfl) (by kernel_rfl) (by kernel_rfl) (fun _ _ _ h => h) (Or.inl ⟨by kernel_rfl, ?_⟩) hS ?_
        rotate_left
        · (intro w' hSw; go_simp <;> with_reducible rfl)
        try simp only [List.getElem_toArray, List.getElem_cons_succ, List.getElem_cons_zero, Act.put, List.setIfInBounds_toArray, List.set_cons_zero, List.set_cons_succ]
        refine reg_take (i := 11) (v := ?_) rfl (by kernel_rfl) (by kernel_rfl) (by kernel_rfl) (fun _ _ _ h => h) (Or.inl ⟨by kernel_rfl, ?_⟩) hS ?_
        rotate_left
        · (intro w' hSw; go_simp <;> with_reducible rfl)
        try simp only [List.getElem_toArray, List.getElem_cons_succ, List.getElem_cons_zero, Act.put, List.setIfInBounds_toArray, List.set_cons_zero, List.set_cons_succ]
        refine wpAnyH_done (by kernel_rfl) ?_ _
        try simp only [List.getElem_toArray, List.getElem_cons_succ, List.getElem_cons_zero]
        try simp only [List.getElem_toArray, List.getElem_cons_succ, List.getElem_cons_zero, Act.put, List.setIfInBounds_toArray, List.set_cons_zero, List.set_cons_succ]
        have hfit := HF.out
        have z2_0 := hS.cell 2 0 rfl rfl; have z2_1 := hS.cell 2 1 rfl rfl; have z2_2 := hS.cell 2 2 rfl rfl; have z2_3 := hS.cell 2 3 rfl rfl; have z2_4 := hS.cell 2 4 rfl rfl; have z2_5 := hS.cell 2 5 rfl rfl; have z2_6 := hS.cell 2 6 rfl rfl; have z2_7 := hS.cell 2 7 rfl rfl
        have zf2 := hS.free 2 rfl
        have HS := Lib.hid hS
        clear hS
        go_wp2_with fail
        have r := ((((((((HS.out.set 2 0 rfl (.int .i64 0)).set 2 1 rfl (.int .i64 0)).set 2 2 rfl (.int .i64 0)).set 2 3 rfl (.int .i64 0)).set 2 4 rfl (.int .i64 0)).set 2 5 rfl (.int .i64 0)).set 2 6 rfl (.int .i64 0)).set 2 7 rfl (.int .i64 0))
        have r0 := r.cell 2 0 rfl rfl
        have r1 := r.cell 2 1 rfl rfl
        have r2 := r.cell 2 2 rfl rfl
        have r3 := r.cell 2 3 rfl rfl
        have r4 := r.cell 2 4 rfl rfl
        have r5 := r.cell 2 5 rfl rfl
        have r6 := r.cell 2 6 rfl rfl
        have r7 := r.cell 2 7 rfl rfl
        exact bodyPost_ret (v := .tuple #[.agg #[.int .i64 0, .int .i64 0, .int .i64 0, .int .i64 0, .int .i64 0, .int .i64 0, .int .i64 0, .int .i64 0], .bool false]) (by simp [results, Tryd.results46, go_sem, r0, r1, r2, r3, r4, r5, r6, r7]) rfl ⟨.inr ⟨hfit, rfl⟩, r.bel⟩
    · have hfit := HV.out.2.2.2.1 hs0 (by omega)
      have HF := Lib.hid hfit
      clear hfit
      have hS : (Own w (laL x y s t v)) (w2.drew) := hS1
      refine reg_start (Own w (laL x y s t v)) (by kernel_rfl) hS ?_
      refine reg_take (i := 0) (v := ?_) rfl (by kernel_rfl) (by kernel_rfl) (by kernel_rfl) (fun _ _ _ h => h) (Or.inl ⟨by kernel_rfl, ?_⟩) hS ?_
      rotate_left
      · (intro w' hSw; have z0_0 := hSw.cell 0 0 rfl rfl; have z0_1 := hSw.cell 0 1 rfl rfl; have z0_2 := hSw.cell 0 2 rfl rfl; have z0_3 := hSw.cell 0 3 rfl rfl; have z0_4 := hSw.cell 0 4 rfl rfl; have z0_5 := hSw.cell 0 5 rfl rfl; have z0_6 := hSw.cell 0 6 rfl rfl; have z0_7 := hSw.cell 0 7 rfl rfl; go_simp <;> with_reducible rfl)
      try simp only [List.getElem_toArray, List.getElem_cons_succ, List.getElem_cons_zero, Act.put, List.setIfInBounds_toArray, List.set_cons_zero, List.set_cons_succ]
      refine reg_take (i := 2) (v := ?_) rfl (by kernel_rfl) (by kernel_rfl) (by kernel_rfl) (fun _ _ _ h => h) (Or.inl ⟨by kernel_rfl, ?_⟩) hS ?_
      rotate_left
      · (intro w' hSw; have z1_0 := hSw.cell 1 0 rfl rfl; have z1_1 := hSw.cell 1 1 rfl rfl; have z1_2 := hSw.cell 1 2 rfl rfl; have z1_3 := hSw.cell 1 3 rfl rfl; have z1_4 := hSw.cell 1 4 rfl rfl; have z1_5 := hSw.cell 1 5 rfl rfl; have z1_6 := hSw.cell 1 6 rfl rfl; have z1_7 := hSw.cell 1 7 rfl rfl; go_simp <;> with_reducible rfl)
      try simp only [List.getElem_toArray, List.getElem_cons_succ, List.getElem_cons_zero, Act.put, List.setIfInBounds_toArray, List.set_cons_zero, List.set_cons_succ]
      refine reg_call (i := 1) rfl (by kernel_rfl) (fun K hK => ?_)
      have HK := Lib.hid hK
      clear hK
      go_simp
      refine (la_call hS s true HH.out.1 (by simp; omega)).mono ?_
      rintro e w3 ⟨rfl, h3⟩
      have H3 := Lib.hid h3
      clear h3
      go_wp2_with fail
      refine HK.out.to (Own w (laL x y s t v)) (fun _ h => h) (H3.out) ?_
      clear HK hS
      have hS : (Own w (laL x y s t v)) (w3) := H3.out
      try simp only [List.getElem_toArray, List.getElem_cons_succ, List.getElem_cons_zero, Act.put, List.setIfInBounds_toArray, List.set_cons_zero, List.set_cons_succ]
      refine reg_call (i := 3) rfl (by kernel_rfl) (fun K hK => ?_)
      have HK := Lib.hid hK
      clear hK
      go_simp
      refine (la_call hS t false HH.out.2 (by simp; omega)).mono ?_
      rintro e w4 ⟨rfl, h4⟩
      have H4 := Lib.hid h4
      clear h4
      go_wp2_with fail
      refine HK.out.to (Own w (laL x y s t v)) (fun _ h => h) (H4.out) ?_
      clear HK hS
      have hS : (Own w (laL x y s t v)) (w4) := H4.out
      try simp only [List.getElem_toArray, List.getElem_cons_succ, List.getElem_cons_zero, Act.put, List.setIfInBounds_toArray, List.set_cons_zero, List.set_cons_succ]
      refine reg_take (i := 4) (v := ?_) rfl (by kernel_rfl) (by kernel_rfl) (by kernel_rfl) (fun _ _ _ h => h) (Or.inl ⟨by kernel_rfl, ?_⟩) hS ?_
      rotate_left
      · (intro w' hSw; go_simp <;> with_reducible rfl)
      try simp only [List.getElem_toArray, List.getElem_cons_succ, List.getElem_cons_zero, Act.put, List.setIfInBounds_toArray, List.set_cons_zero, List.set_cons_succ]
      refine reg_take (i := 5) (v := ?_) rfl (by kernel_rfl) (by kernel_rfl) (by kernel_rfl) (fun _ _ _ h => h) (Or.inl ⟨by kernel_rfl, ?_⟩) hS ?_
      rotate_left
      · (intro w' hSw; go_simp <;> with_reducible rfl)
      try simp only [List.getElem_toArray, List.getElem_cons_succ, List.getElem_cons_zero, Act.put, List.setIfInBounds_toArray, List.set_cons_zero, List.set_cons_succ]
      refine reg_take (i := 6) (v := undef) rfl (by kernel_rfl) (by kernel_rfl) (by kernel_rfl) (fun _ _ _ h => h) (Or.inr ⟨by kernel_rfl, rfl⟩) hS ?_
      try simp only [List.getElem_toArray, List.getElem_cons_succ, List.getElem_cons_zero, Act.put, List.setIfInBounds_toArray, List.set_cons_zero, List.set_cons_succ]
      refine reg_take (i := 7) (v := undef) rfl (by kernel_rfl) (by kernel_rfl) (by kernel_rfl) (fun _ _ _ h => h) (Or.inr ⟨by kernel_rfl, rfl⟩) hS ?_
      try simp only [List.getElem_toArray, List.getElem_cons_succ, List.getElem_cons_zero, Act.put, List.setIfInBounds_toArray, List.set_cons_zero, List.set_cons_succ]
      refine reg_take (i := 8) (v := undef) rfl (by kernel_rfl) (by kernel_rfl) (by kernel_rfl) (fun _ _ _ h => h) (Or.inr ⟨by kernel_rfl, rfl⟩) hS ?_
      try simp only [List.getElem_toArray, List.getElem_cons_succ, List.getElem_cons_zero, Act.put, List.setIfInBounds_toArray, List.set_cons_zero, List.set_cons_succ]
      refine reg_take (i := 9) (v := undef) rfl (by kernel_rfl) (by kernel_rfl) (by kernel_rfl) (fun _ _ _ h => h) (Or.inr ⟨by kernel_rfl, rfl⟩) hS ?_
      try simp only [List.getElem_toArray, List.getElem_cons_succ, List.getElem_cons_zero, Act.put, List.setIfInBounds_toArray, List.set_cons_zero, List.set_cons_succ]
      refine reg_take (i := 10) (v := undef) rfl (by kernel_rfl) (by kernel_rfl) (by kernel_rfl) (fun _ _ _ h => h) (Or.inr ⟨by kernel_rfl, rfl⟩) hS ?_
      try simp only [List.getElem_toArray, List.getElem_cons_succ, List.getElem_cons_zero, Act.put, List.setIfInBounds_toArray, List.set_cons_zero, List.set_cons_succ]
      refine reg_take (i := 11) (v := ?_) rfl (by kernel_rfl) (by kernel_rfl) (by kernel_rfl) (fun _ _ _ h => h) (Or.inl ⟨by kernel_rfl, ?_⟩) hS ?_
      rotate_left
      · (intro w' hSw; go_simp <;> with_reducible rfl)
      try simp only [List.getElem_toArray, List.getElem_cons_succ, List.getElem_cons_zero, Act.put, List.setIfInBounds_toArray, List.set_cons_zero, List.set_cons_succ]
      refine wpAnyH_done (by kernel_rfl) ?_ _
      try simp only [List.getElem_toArray, List.getElem_cons_succ, List.getElem_cons_zero]
      try simp only [List.getElem_toArray, List.getElem_cons_succ, List.getElem_cons_zero, Act.put, List.setIfInBounds_toArray, List.set_cons_zero, List.set_cons_succ]
      have hfit := HF.out
      have z2_0 := hS.cell 2 0 rfl rfl; have z2_1 := hS.cell 2 1 rfl rfl; have z2_2 := hS.cell 2 2 rfl rfl; have z2_3 := hS.cell 2 3 rfl rfl; have z2_4 := hS.cell 2 4 rfl rfl; have z2_5 := hS.cell 2 5 rfl rfl; have z2_6 := hS.cell 2 6 rfl rfl; have z2_7 := hS.cell 2 7 rfl rfl; have z3_0 := hS.cell 3 0 rfl rfl; have z3_1 := hS.cell 3 1 rfl rfl; have z3_2 := hS.cell 3 2 rfl rfl; have z3_3 := hS.cell 3 3 rfl rfl; have z3_4 := hS.cell 3 4 rfl rfl; have z3_5 := hS.cell 3 5 rfl rfl; have z3_6 := hS.cell 3 6 rfl rfl; have z3_7 := hS.cell 3 7 rfl rfl
      have zf2 := hS.free 2 rfl
      have HS := Lib.hid hS
      clear hS
      go_wp2_with fail
      have r := ((((((((HS.out.set 2 0 rfl (.int .i64 (lim v 0))).set 2 1 rfl (.int .i64 (lim v 1))).set 2 2 rfl (.int .i64 (lim v 2))).set 2 3 rfl (.int .i64 (lim v 3))).set 2 4 rfl (.int .i64 (lim v 4))).set 2 5 rfl (.int .i64 (lim v 5))).set 2 6 rfl (.int .i64 (lim v 6))).set 2 7 rfl (.int .i64 (lim v 7)))
      have r0 := r.cell 2 0 rfl rfl
      have r1 := r.cell 2 1 rfl rfl
      have r2 := r.cell 2 2 rfl rfl
      have r3 := r.cell 2 3 rfl rfl
      have r4 := r.cell 2 4 rfl rfl
      have r5 := r.cell 2 5 rfl rfl
      have r6 := r.cell 2 6 rfl rfl
      have r7 := r.cell 2 7 rfl rfl
      exact bodyPost_ret (v := .tuple #[.agg #[.int .i64 (lim (v) 0), .int .i64 (lim (v) 1), .int .i64 (lim (v) 2), .int .i64 (lim (v) 3), .int .i64 (lim (v) 4), .int .i64 (lim (v) 5), .int .i64 (lim (v) 6), .int .i64 (lim (v) 7)], .bool true]) (by simp [results, Tryd.results46, go_sem, r0, r1, r2, r3, r4, r5, r6, r7]) rfl ⟨.inl ⟨hfit, by rw [HV.out.2.2.2.2.2.2 hfit]⟩, r.bel⟩
  · by_cases ht0 : t < 0
    · have hfit := HV.out.2.2.1 (by omega) ht0
      have HF := Lib.hid hfit
      clear hfit
      have hS : (Own w (laL x y s t v)) (w2.drew) := hS1
      refine reg_start (Own w (laL x y s t v)) (by kernel_rfl) hS ?_
      refine reg_take (i := 0) (v := ?_) rfl (by kernel_rfl) (by kernel_rfl) (by kernel_rfl) (fun _ _ _ h => h) (Or.inl ⟨by kernel_rfl, ?_⟩) hS ?_
      rotate_left
      · (intro w' hSw; have z0_0 := hSw.cell 0 0 rfl rfl; have z0_1 := hSw.cell 0 1 rfl rfl; have z0_2 := hSw.cell 0 2 rfl rfl; have z0_3 := hSw.cell 0 3 rfl rfl; have z0_4 := hSw.cell 0 4 rfl rfl; have z0_5 := hSw.cell 0 5 rfl rfl; have z0_6 := hSw.cell 0 6 rfl rfl; have z0_7 := hSw.cell 0 7 rfl rfl; go_simp <;> with_reducible rfl)
      try simp only [List.getElem_toArray, List.getElem_cons_succ, List.getElem_cons_zero, Act.put, List.setIfInBounds_toArray, List.set_cons_zero, List.set_cons_succ]
      refine reg_take (i := 2) (v := ?_) rfl (by kernel_rfl) (by kernel_rfl) (by kernel_rfl) (fun _ _ _ h => h) (Or.inl ⟨by kernel_rfl, ?_⟩) hS ?_
      rotate_left
      · (intro w' hSw; have z1_0 := hSw.cell 1 0 rfl rfl; have z1_1 := hSw.cell 1 1 rfl rfl; have z1_2 := hSw.cell 1 2 rfl rfl; have z1_3 := hSw.cell 1 3 rfl rfl; have z1_4 := hSw.cell 1 4 rfl rfl; have z1_5 := hSw.cell 1 5 rfl rfl; have z1_6 := hSw.cell 1 6 rfl rfl; have z1_7 := hSw.cell 1 7 rfl rfl; go_simp <;> with_reducible rfl)
      try simp only [List.getElem_toArray, List.getElem_cons_succ, List.getElem_cons_zero, Act.put, List.setIfInBounds_toArray, List.set_cons_zero, List.set_cons_succ]
      refine reg_call (i := 1) rfl (by kernel_rfl) (fun K hK => ?_)
      have HK := Lib.hid hK
      clear hK
      go_simp
      refine (la_call hS s false HH.out.1 (by simp; omega)).mono ?_
      rintro e w3 ⟨rfl, h3⟩
      have H3 := Lib.hid h3
      clear h3
      go_wp2_with fail
      refine HK.out.to (Own w (laL x y s t v)) (fun _ h => h) (H3.out) ?_
      clear HK hS
      have hS : (Own w (laL x y s t v)) (w3) := H3.out
      try simp only [List.getElem_toArray, List.getElem_cons_succ, List.getElem_cons_zero, Act.put, List.setIfInBounds_toArray, List.set_cons_zero, List.set_cons_succ]
      refine reg_call (i := 3) rfl (by kernel_rfl) (fun K hK => ?_)
      have HK := Lib.hid hK
      clear hK
      go_simp
      refine (la_call hS t true HH.out.2 (by simp; omega)).mono ?_
      rintro e w4 ⟨rfl, h4⟩
      have H4 := Lib.hid h4
      clear h4
      go_wp2_with fail
      refine HK.out.to (Own w (laL x y s t v)) (fun _ h => h) (H4.out) ?_
      clear HK hS
      have hS : (Own w (laL x y s t v)) (w4) := H4.out
      try simp only [List.getElem_toArray, List.getElem_cons_succ, List.getElem_cons_zero, Act.put, List.setIfInBounds_toArray, List.set_cons_zero, List.set_cons_succ]
      refine reg_take (i := 4) (v := ?_) rfl (by kernel_rfl) (by kernel_rfl) (by kernel_rfl) (fun _ _ _ h => h) (Or.inl ⟨by kernel_rfl, ?_⟩) hS ?_
      rotate_left
      · (intro w' hSw; go_simp <;> with_reducible rfl)
      try simp only [List.getElem_toArray, List.getElem_cons_succ, List.getElem_cons_zero, Act.put, List.setIfInBounds_toArray, List.set_cons_zero, List.set_cons_succ]
      refine reg_take (i := 5) (v := ?_) rfl (by kernel_rfl) (by kernel_rfl) (by kernel_rfl) (fun _ _ _ h => h) (Or.inl ⟨by kernel_rfl, ?_⟩) hS ?_
      rotate_left
      · (intro w' hSw; go_simp <;> with_reducible rfl)
      try simp only [List.getElem_toArray, List.getElem_cons_succ, List.getElem_cons_zero, Act.put, List.setIfInBounds_toArray, List.set_cons_zero, List.set_cons_succ]
      refine reg_take (i := 6) (v := undef) rfl (by kernel_rfl) (by kernel_rfl) (by kernel_rfl) (fun _ _ _ h => h) (Or.inr ⟨by kernel_rfl, rfl⟩) hS ?_
      try simp only [List.getElem_toArray, List.getElem_cons_succ, List.getElem_cons_zero, Act.put, List.setIfInBounds_toArray, List.set_cons_zero, List.set_cons_succ]
      refine reg_take (i := 7) (v := undef) rfl (by kernel_rfl) (by kernel_rfl) (by kernel_rfl) (fun _ _ _ h => h) (Or.inr ⟨by kernel_rfl, rfl⟩) hS ?_
      try simp only [List.getElem_toArray, List.getElem_cons_succ, List.getElem_cons_zero, Act.put, List.setIfInBounds_toArray, List.set_cons_zero, List.set_cons_succ]
      refine reg_take (i := 8) (v := undef) rfl (by kernel_rfl) (by kernel_rfl) (by kernel_rfl) (fun _ _ _ h => h) (Or.inr ⟨by kernel_rfl, rfl⟩) hS ?_
      try simp only [List.getElem_toArray, List.getElem_cons_succ, List.getElem_cons_zero, Act.put, List.setIfInBounds_toArray, List.set_cons_zero, List.set_cons_succ]
      refine reg_take (i := 9) (v := undef) rfl (by kernel_rfl) (by kernel_rfl) (by kernel_rfl) (fun _ _ _ h => h) (Or.inr ⟨by kernel_rfl, rfl⟩) hS ?_
      try simp only [List.getElem_toArray, List.getElem_cons_succ, List.getElem_cons_zero, Act.put, List.setIfInBounds_toArray, List.set_cons_zero, List.set_cons_succ]
      refine reg_take (i := 10) (v := undef) rfl (by kernel_rfl) (by kernel_rfl) (by kernel_rfl) (fun _ _ _ h => h) (Or.inr ⟨by kernel_rfl, rfl⟩) hS ?_
      try simp only [List.getElem_toArray, List.getElem_cons_succ, List.getElem_cons_zero, Act.put, List.setIfInBounds_toArray, List.set_cons_zero, List.set_cons_succ]
      refine reg_take (i := 11) (v := ?_) rfl (by kernel_rfl) (by kernel_rfl) (by kernel_rfl) (fun _ _ _ h => h) (Or.inl ⟨by kernel_rfl, ?_⟩) hS ?_
      rotate_left
      · (intro w' hSw; go_simp <;> with_reducible rfl)
      try simp only [List.getElem_toArray, List.getElem_cons_succ, List.getElem_cons_zero, Act.put, List.setIfInBounds_toArray, List.set_cons_zero, List.set_cons_succ]
      refine wpAnyH_done (by kernel_rfl) ?_ _
      try simp only [List.getElem_toArray, List.getElem_cons_succ, List.getElem_cons_zero]
      try simp only [List.getElem_toArray, List.getElem_cons_succ, List.getElem_cons_zero, Act.put, List.setIfInBounds_toArray, List.set_cons_zero, List.set_cons_succ]
      have hfit := HF.out
      have z2_0 := hS.cell 2 0 rfl rfl; have z2_1 := hS.cell 2 1 rfl rfl; have z2_2 := hS.cell 2 2 rfl rfl; have z2_3 := hS.cell 2 3 rfl rfl; have z2_4 := hS.cell 2 4 rfl rfl; have z2_5 := hS.cell 2 5 rfl rfl; have z2_6 := hS.cell 2 6 rfl rfl; have z2_7 := hS.cell 2 7 rfl rfl; have z3_0 := hS.cell 3 0 rfl rfl; have z3_1 := hS.cell 3 1 rfl rfl; have z3_2 := hS.cell 3 2 rfl rfl; have z3_3 := hS.cell 3 3 rfl rfl; have z3_4 := hS.cell 3 4 rfl rfl; have z3_5 := hS.cell 3 5 rfl rfl; have z3_6 := hS.cell 3 6 rfl rfl; have z3_7 := hS.cell 3 7 rfl rfl
      have zf2 := hS.free 2 rfl
      have HS := Lib.hid hS
      clear hS
      go_wp2_with fail
      have r := ((((((((HS.out.set 2 0 rfl (.int .i64 (lim v 0))).set 2 1 rfl (.int .i64 (lim v 1))).set 2 2 rfl (.int .i64 (lim v 2))).set 2 3 rfl (.int .i64 (lim v 3))).set 2 4 rfl (.int .i64 (lim v 4))).set 2 5 rfl (.int .i64 (lim v 5))).set 2 6 rfl (.int .i64 (lim v 6))).set 2 7 rfl (.int .i64 (lim v 7)))
      have r0 := r.cell 2 0 rfl rfl
      have r1 := r.cell 2 1 rfl rfl
      have r2 := r.cell 2 2 rfl rfl
      have r3 := r.cell 2 3 rfl rfl
      have r4 := r.cell 2 4 rfl rfl
      have r5 := r.cell 2 5 rfl rfl
      have r6 := r.cell 2 6 rfl rfl
      have r7 := r.cell 2 7 rfl rfl
      exact bodyPost_ret (v := .tuple #[.agg #[.int .i64 (lim (v) 0), .int .i64 (lim (v) 1), .int .i64 (lim (v) 2), .int .i64 (lim (v) 3), .int .i64 (lim (v) 4), .int .i64 (lim (v) 5), .int .i64 (lim (v) 6), .int .i64 (lim (v) 7)], .bool true]) (by simp [results, Tryd.results46, go_sem, r0, r1, r2, r3, r4, r5, r6, r7]) rfl ⟨.inl ⟨hfit, by rw [HV.out.2.2.2.2.2.2 hfit]⟩, r.bel⟩
    · by_cases hv0 : v < 0
      · have hfit : ¬ S128 (s + t) := fun h => absurd hv0 (Int.not_lt.2 ((HV.out.2.2.2.2.2.1 (by omega) (by omega)).2 h))
        have HF := Lib.hid hfit
        clear hfit
        have hS : (Own w (laL x y s t v)) (w2.drew) := hS1
        refine reg_start (Own w (laL x y s t v)) (by kernel_rfl) hS ?_
        refine reg_take (i := 0) (v := ?_) rfl (by kernel_rfl) (by kernel_rfl) (by kernel_rfl) (fun _ _ _ h => h) (Or.inl ⟨by kernel_rfl, ?_⟩) hS ?_
        rotate_left
        · (intro w' hSw; have z0_0 := hSw.cell 0 0 rfl rfl; have z0_1 := hSw.cell 0 1 rfl rfl; have z0_2 := hSw.cell 0 2 rfl rfl; have z0_3 := hSw.cell 0 3 rfl rfl; have z0_4 := hSw.cell 0 4 rfl rfl; have z0_5 := hSw.cell 0 5 rfl rfl; have z0_6 := hSw.cell 0 6 rfl rfl; have z0_7 := hSw.cell 0 7 rfl rfl; go_simp <;> with_reducible rfl)
        try simp only [List.getElem_toArray, List.getElem_cons_succ, List.getElem_cons_zero, Act.put, List.setIfInBounds_toArray, List.set_cons_zero, List.set_cons_succ]
        refine reg_take (i := 2) (v := ?_) rfl (by kernel_rfl) (by kernel_rfl) (by kernel_rfl) (fun _ _ _ h => h) (Or.inl ⟨by kernel_rfl, ?_⟩) hS ?_
        rotate_left
        · (intro w' hSw; have z1_0 := hSw.cell 1 0 rfl rfl; have z1_1 := hSw.cell 1 1 rfl rfl; have z1_2 := hSw.cell 1 2 rfl rfl; have z1_3 := hSw.cell 1 3 rfl rfl; have z1_4 := hSw.cell 1 4 rfl rfl; have z1_5 := hSw.cell 1 5 rfl rfl; have z1_6 := hSw.cell 1 6 rfl rfl; have z1_7 := hSw.cell 1 7 rfl rfl; go_simp <;> with_reducible rfl)
        try simp only [List.getElem_toArray, List.getElem_cons_succ, List.getElem_cons_zero, Act.put, List.setIfInBounds_toArray, List.set_cons_zero, List.set_cons_succ]
        refine reg_call (i := 1) rfl (by kernel_rfl) (fun K hK => ?_)
        have HK := Lib.hid hK
        clear hK
        go_simp
        refine (la_call hS s false HH.out.1 (by simp; omega)).mono ?_
        rintro e w3 ⟨rfl, h3⟩
        have H3 := Lib.hid h3
        clear h3
        go_wp2_with fail
        refine HK.out.to (Own w (laL x y s t v)) (fun _ h => h) (H3.out) ?_
        clear HK hS
        have hS : (Own w (laL x y s t v)) (w3) := H3.out
        try simp only [List.getElem_toArray, List.getElem_cons_succ, List.getElem_cons_zero, Act.put, List.setIfInBounds_toArray, List.set_cons_zero, List.set_cons_succ]
        refine reg_call (i := 3) rfl (by kernel_rfl) (fun K hK => ?_)
        have HK := Lib.hid hK
        clear hK
        go_simp
        refine (la_call hS t false HH.out.2 (by simp; omega)).mono ?_
        rintro e w4 ⟨rfl, h4⟩
        have H4 := Lib.hid h4
        clear h4
        go_wp2_with fail
        refine HK.out.to (Own w (laL x y s t v)) (fun _ h => h) (H4.out) ?_
        clear HK hS
        have hS : (Own w (laL x y s t v)) (w4) := H4.out
        try simp only [List.getElem_toArray, List.getElem_cons_succ, List.getElem_cons_zero, Act.put, List.setIfInBounds_toArray, List.set_cons_zero, List.set_cons_succ]
        refine reg_take (i := 4) (v := ?_) rfl (by kernel_rfl) (by kernel_rfl) (by kernel_rfl) (fun _ _ _ h => h) (Or.inl ⟨by kernel_rfl, ?_⟩) hS ?_
        rotate_left
        · (intro w' hSw; go_simp <;> with_reducible rfl)
        try simp only [List.getElem_toArray, List.getElem_cons_succ, List.getElem_cons_zero, Act.put, List.setIfInBounds_toArray, List.set_cons_zero, List.set_cons_succ]
        refine reg_take (i := 5) (v := ?_) rfl (by kernel_rfl) (by kernel_rfl) (by kernel_rfl) (fun _ _ _ h => h) (Or.inl ⟨by kernel_rfl, ?_⟩) hS ?_
        rotate_left
        · (intro w' hSw; go_simp <;> with_reducible rfl)
        try simp only [List.getElem_toArray, List.getElem_cons_succ, List.getElem_cons_zero, Act.put, List.setIfInBounds_toArray, List.set_cons_zero, List.set_cons_succ]
        refine reg_take (i := 6) (v := ?_) rfl (by kernel_rfl) (by kernel_rfl) (by kernel_rfl) (fun _ _ _ h => h) (Or.inl ⟨by kernel_rfl, ?_⟩) hS ?_
        rotate_left
        · (intro w' hSw; have z3_0 := hSw.cell 3 0 rfl rfl; have z3_1 := hSw.cell 3 1 rfl rfl; have z3_2 := hSw.cell 3 2 rfl rfl; have z3_3 := hSw.cell 3 3 rfl rfl; have z3_4 := hSw.cell 3 4 rfl rfl; have z3_5 := hSw.cell 3 5 rfl rfl; have z3_6 := hSw.cell 3 6 rfl rfl; have z3_7 := hSw.cell 3 7 rfl rfl; go_simp <;> with_reducible rfl)
        try simp only [List.getElem_toArray, List.getElem_cons_succ, List.getElem_cons_zero, Act.put, List.setIfInBounds_toArray, List.set_cons_zero, List.set_cons_succ]
        refine reg_take (i := 8) (v := ?_) rfl (by kernel_rfl) (by kernel_rfl) (by kernel_rfl) (fun _ _ _ h => h) (Or.inl ⟨by kernel_rfl, ?_⟩) hS ?_
        rotate_left
        · (intro w' hSw; have z0_0 := hSw.cell 0 0 rfl rfl; have z0_1 := hSw.cell 0 1 rfl rfl; have z0_2 := hSw.cell 0 2 rfl rfl; have z0_3 := hSw.cell 0 3 rfl rfl; have z0_4 := hSw.cell 0 4 rfl rfl; have z0_5 := hSw.cell 0 5 rfl rfl; have z0_6 := hSw.cell 0 6 rfl rfl; have z0_7 := hSw.cell 0 7 rfl rfl; go_simp <;> with_reducible rfl)
        try simp only [List.getElem_toArray, List.getElem_cons_succ, List.getElem_cons_zero, Act.put, List.setIfInBounds_toArray, List.set_cons_zero, List.set_cons_succ]
        refine reg_call (i := 7) rfl (by kernel_rfl) (fun K hK => ?_)
        have HK := Lib.hid hK
        clear hK
        go_simp
        refine (la_call hS v true HW.out (by simp; omega)).mono ?_
        rintro e w5 ⟨rfl, h5⟩
        have H5 := Lib.hid h5
        clear h5
        go_wp2_with fail
        refine HK.out.to (Own w (laL x y s t v)) (fun _ h => h) (H5.out) ?_
        clear HK hS
        have hS : (Own w (laL x y s t v)) (w5) := H5.out
        try simp only [List.getElem_toArray, List.getElem_cons_succ, List.getElem_cons_zero, Act.put, List.setIfInBounds_toArray, List.set_cons_zero, List.set_cons_succ]
        refine reg_call (i := 9) rfl (by kernel_rfl) (fun K hK => ?_)
        have HK := Lib.hid hK
        clear hK
        go_simp
        refine (la_call hS s false HH.out.1 (by simp; omega)).mono ?_
        rintro e w6 ⟨rfl, h6⟩
        have H6 := Lib.hid h6
        clear h6
        go_wp2_with fail
        refine HK.out.to (Own w (laL x y s t v)) (fun _ h => h) (H6.out) ?_
        clear HK hS
        have hS : (Own w (laL x y s t v)) (w6) := H6.out
        try simp only [List.getElem_toArray, List.getElem_cons_succ, List.getElem_cons_zero, Act.put, List.setIfInBounds_toArray, List.set_cons_zero, List.set_cons_succ]
        refine reg_take (i := 10) (v := ?_) rfl (by kernel_rfl) (by kernel_rfl) (by kernel_rfl) (fun _ _ _ h => h) (Or.inl ⟨by kernel_rfl, ?_⟩) hS ?_
        rotate_left
        · (intro w' hSw; go_simp <;> with_reducible rfl)
        try simp only [List.getElem_toArray, List.getElem_cons_succ, List.getElem_cons_zero, Act.put, List.setIfInBounds_toArray, List.set_cons_zero, List.set_cons_succ]
        refine reg_take (i := 11) (v := ?_) rfl (by kernel_rfl) (by kernel_rfl) (by kernel_rfl) (fun _ _ _ h => h) (Or.inl ⟨by kernel_rfl, ?_⟩) hS ?_
        rotate_left
        · (intro w' hSw; go_simp <;> with_reducible rfl)
        try simp only [List.getElem_toArray, List.getElem_cons_succ, List.getElem_cons_zero, Act.put, List.setIfInBounds_toArray, List.set_cons_zero, List.set_cons_succ]
        refine wpAnyH_done (by kernel_rfl) ?_ _
        try simp only [List.getElem_toArray, List.getElem_cons_succ, List.getElem_cons_zero]
        try simp only [List.getElem_toArray, List.getElem_cons_succ, List.getElem_cons_zero, Act.put, List.setIfInBounds_toArray, List.set_cons_zero, List.set_cons_succ]
        have hfit := HF.out
        have z2_0 := hS.cell 2 0 rfl rfl; have z2_1 := hS.cell 2 1 rfl rfl; have z2_2 := hS.cell 2 2 rfl rfl; have z2_3 := hS.cell 2 3 rfl rfl; have z2_4 := hS.cell 2 4 rfl rfl; have z2_5 := hS.cell 2 5 rfl rfl; have z2_6 := hS.cell 2 6 rfl rfl; have z2_7 := hS.cell 2 7 rfl rfl
        have zf2 := hS.free 2 rfl
        have HS := Lib.hid hS
        clear hS
        go_wp2_with fail
        have r := ((((((((HS.out.set 2 0 rfl (.int .i64 0)).set 2 1 rfl (.int .i64 0)).set 2 2 rfl (.int .i64 0)).set 2 3 rfl (.int .i64 0)).set 2 4 rfl (.int .i64 0)).set 2 5 rfl (.int .i64 0)).set 2 6 rfl (.int .i64 0)).set 2 7 rfl (.int .i64 0))
        have r0 := r.cell 2 0 rfl rfl
        have r1 := r.cell 2 1 rfl rfl
        have r2 := r.cell 2 2 rfl rfl
        have r3 := r.cell 2 3 rfl rfl
        have r4 := r.cell 2 4 rfl rfl
        have r5 := r.cell 2 5 rfl rfl
        have r6 := r.cell 2 6 rfl rfl
        have r7 := r.cell 2 7 rfl rfl
        exact bodyPost_ret (v := .tuple #[.agg #[.int .i64 0, .int .i64 0, .int .i64 0, .int .i64 0, .int .i64 0, .int .i64 0, .int .i64 0, .int .i64 0], .bool false]) (by simp [results, Tryd.results46, go_sem, r0, r1, r2, r3, r4, r5, r6, r7]) rfl ⟨.inr ⟨hfit, rfl⟩, r.bel⟩
      · have hfit := (HV.out.2.2.2.2.2.1 (by omega) (by omega)).1 (by omega)
        have HF := Lib.hid hfit
        clear hfit
        have hS : (Own w (laL x y s t v)) (w2.drew) := hS1
        refine reg_start (Own w (laL x y s t v)) (by kernel_rfl) hS ?_
        refine reg_take (i := 0) (v := ?_) rfl (by kernel_rfl) (by kernel_rfl) (by kernel_rfl) (fun _ _ _ h => h) (Or.inl ⟨by kernel_rfl, ?_⟩) hS ?_
        rotate_left
        · (intro w' hSw; have z0_0 := hSw.cell 0 0 rfl rfl; have z0_1 := hSw.cell 0 1 rfl rfl; have z0_2 := hSw.cell 0 2 rfl rfl; have z0_3 := hSw.cell 0 3 rfl rfl; have z0_4 := hSw.cell 0 4 rfl rfl; have z0_5 := hSw.cell 0 5 rfl rfl; have z0_6 := hSw.cell 0 6 rfl rfl; have z0_7 := hSw.cell 0 7 rfl rfl; go_simp <;> with_reducible rfl)
        try simp only [List.getElem_toArray, List.getElem_cons_succ, List.getElem_cons_zero, Act.put, List.setIfInBounds_toArray, List.set_cons_zero, List.set_cons_succ]
        refine reg_take (i := 2) (v := ?_) rfl (by kernel_rfl) (by kernel_rfl) (by kernel_rfl) (fun _ _ _ h => h) (Or.inl ⟨by kernel_rfl, ?_⟩) hS ?_
        rotate_left
        · (intro w' hSw; have z1_0 := hSw.cell 1 0 rfl rfl; have z1_1 := hSw.cell 1 1 rfl rfl; have z1_2 := hSw.cell 1 2 rfl rfl; have z1_3 := hSw.cell 1 3 rfl rfl; have z1_4 := hSw.cell 1 4 rfl rfl; have z1_5 := hSw.cell 1 5 rfl rfl; have z1_6 := hSw.cell 1 6 rfl rfl; have z1_7 := hSw.cell 1 7 rfl rfl; go_simp <;> with_reducible rfl)
        try simp only [List.getElem_toArray, List.getElem_cons_succ, List.getElem_cons_zero, Act.put, List.setIfInBounds_toArray, List.set_cons_zero, List.set_cons_succ]
        refine reg_call (i := 1) rfl (by kernel_rfl) (fun K hK => ?_)
        have HK := Lib.hid hK
        clear hK
        go_simp
        refine (la_call hS s false HH.out.1 (by simp; omega)).mono ?_
        rintro e w3 ⟨rfl, h3⟩
        have H3 := Lib.hid h3
        clear h3
        go_wp2_with fail
        refine HK.out.to (Own w (laL x y s t v)) (fun _ h => h) (H3.out) ?_
        clear HK hS
        have hS : (Own w (laL x y s t v)) (w3) := H3.out
        try simp only [List.getElem_toArray, List.getElem_cons_succ, List.getElem_cons_zero, Act.put, List.setIfInBounds_toArray, List.set_cons_zero, List.set_cons_succ]
        refine reg_call (i := 3) rfl (by kernel_rfl) (fun K hK => ?_)
        have HK := Lib.hid hK
        clear hK
        go_simp
        refine (la_call hS t false HH.out.2 (by simp; omega)).mono ?_
        rintro e w4 ⟨rfl, h4⟩
        have H4 := Lib.hid h4
        clear h4
        go_wp2_with fail
        refine HK.out.to (Own w (laL x y s t v)) (fun _ h => h) (H4.out) ?_
        clear HK hS
        have hS : (Own w (laL x y s t v)) (w4) := H4.out
        try simp only [List.getElem_toArray, List.getElem_cons_succ, List.getElem_cons_zero, Act.put, List.setIfInBounds_toArray, List.set_cons_zero, List.set_cons_succ]
        refine reg_take (i := 4) (v := ?_) rfl (by kernel_rfl) (by kernel_rfl) (by kernel_rfl) (fun _ _ _ h => h) (Or.inl ⟨by kernel_rfl, ?_⟩) hS ?_
        rotate_left
        · (intro w' hSw; go_simp <;> with_reducible rfl)
        try simp only [List.getElem_toArray, List.getElem_cons_succ, List.getElem_cons_zero, Act.put, List.setIfInBounds_toArray, List.set_cons_zero, List.set_cons_succ]
        refine reg_take (i := 5) (v := ?_) rfl (by kernel_rfl) (by kernel_rfl) (by kernel_rfl) (fun _ _ _ h => h) (Or.inl ⟨by kernel_rfl, ?_⟩) hS ?_
        rotate_left
        · (intro w' hSw; go_simp <;> with_reducible rfl)
        try simp only [List.getElem_toArray, List.getElem_cons_succ, List.getElem_cons_zero, Act.put, List.setIfInBounds_toArray, List.set_cons_zero, List.set_cons_succ]
        refine reg_take (i := 6) (v := ?_) rfl (by kernel_rfl) (by kernel_rfl) (by kernel_rfl) (fun _ _ _ h => h) (Or.inl ⟨by kernel_rfl, ?_⟩) hS ?_
        rotate_left
        · (intro w' hSw; have z3_0 := hSw.cell 3 0 rfl rfl; have z3_1 := hSw.cell 3 1 rfl rfl; have z3_2 := hSw.cell 3 2 rfl rfl; have z3_3 := hSw.cell 3 3 rfl rfl; have z3_4 := hSw.cell 3 4 rfl rfl; have z3_5 := hSw.cell 3 5 rfl rfl; have z3_6 := hSw.cell 3 6 rfl rfl; have z3_7 := hSw.cell 3 7 rfl rfl; go_simp <;> with_reducible rfl)
        try simp only [List.getElem_toArray, List.getElem_cons_succ, List.getElem_cons_zero, Act.put, List.setIfInBounds_toArray, List.set_cons_zero, List.set_cons_succ]
        refine reg_take (i := 8) (v := ?_) rfl (by kernel_rfl) (by kernel_rfl) (by kernel_rfl) (fun _ _ _ h => h) (Or.inl ⟨by kernel_rfl, ?_⟩) hS ?_
        rotate_left
        · (intro w' hSw; have z0_0 := hSw.cell 0 0 rfl rfl; have z0_1 := hSw.cell 0 1 rfl rfl; have z0_2 := hSw.cell 0 2 rfl rfl; have z0_3 := hSw.cell 0 3 rfl rfl; have z0_4 := hSw.cell 0 4 rfl rfl; have z0_5 := hSw.cell 0 5 rfl rfl; have z0_6 := hSw.cell 0 6 rfl rfl; have z0_7 := hSw.cell 0 7 rfl rfl; go_simp <;> with_reducible rfl)
        try simp only [List.getElem_toArray, List.getElem_cons_succ, List.getElem_cons_zero, Act.put, List.setIfInBounds_toArray, List.set_cons_zero, List.set_cons_succ]
        refine reg_call (i := 7) rfl (by kernel_rfl) (fun K hK => ?_)
        have HK := Lib.hid hK
        clear hK
        go_simp
        refine (la_call hS v false HW.out (by simp; omega)).mono ?_
        rintro e w5 ⟨rfl, h5⟩
        have H5 := Lib.hid h5
        clear h5
        go_wp2_with fail
        refine HK.out.to (Own w (laL x y s t v)) (fun _ h => h) (H5.out) ?_
        clear HK hS
        have hS : (Own w (laL x y s t v)) (w5) := H5.out
        try simp only [List.getElem_toArray, List.getElem_cons_succ, List.getElem_cons_zero, Act.put, List.setIfInBounds_toArray, List.set_cons_zero, List.set_cons_succ]
        refine reg_call (i := 9) rfl (by kernel_rfl) (fun K hK => ?_)
        have HK := Lib.hid hK
        clear hK
        go_simp
        refine (la_call hS s false HH.out.1 (by simp; omega)).mono ?_
        rintro e w6 ⟨rfl, h6⟩
        have H6 := Lib.hid h6
        clear h6
        go_wp2_with fail
        refine HK.out.to (Own w (laL x y s t v)) (fun _ h => h) (H6.out) ?_
        clear HK hS
        have hS : (Own w (laL x y s t v)) (w6) := H6.out
        try simp only [List.getElem_toArray, List.getElem_cons_succ, List.getElem_cons_zero, Act.put, List.setIfInBounds_toArray, List.set_cons_zero, List.set_cons_succ]
        refine reg_take (i := 10) (v := ?_) rfl (by kernel_rfl) (by kernel_rfl) (by kernel_rfl) (fun _ _ _ h => h) (Or.inl ⟨by kernel_rfl, ?_⟩) hS ?_
        rotate_left
        · (intro w' hSw; go_simp <;> with_reducible rfl)
        try simp only [List.getElem_toArray, List.getElem_cons_succ, List.getElem_cons_zero, Act.put, List.setIfInBounds_toArray, List.set_cons_zero, List.set_cons_succ]
        refine reg_take (i := 11) (v := ?_) rfl (by kernel_rfl) (by kernel_rfl) (by kernel_rfl) (fun _ _ _ h => h) (Or.inl ⟨by kernel_rfl, ?_⟩) hS ?_
        rotate_left
        · (intro w' hSw; go_simp <;> with_reducible rfl)
        try simp only [List.getElem_toArray, List.getElem_cons_succ, List.getElem_cons_zero, Act.put, List.setIfInBounds_toArray, List.set_cons_zero, List.set_cons_succ]
        refine wpAnyH_done (by kernel_rfl) ?_ _
        try simp only [List.getElem_toArray, List.getElem_cons_succ, List.getElem_cons_zero]
        try simp only [List.getElem_toArray, List.getElem_cons_succ, List.getElem_cons_zero, Act.put, List.setIfInBounds_toArray, List.set_cons_zero, List.set_cons_succ]
        have hfit := HF.out
        have z2_0 := hS.cell 2 0 rfl rfl; have z2_1 := hS.cell 2 1 rfl rfl; have z2_2 := hS.cell 2 2 rfl rfl; have z2_3 := hS.cell 2 3 rfl rfl; have z2_4 := hS.cell 2 4 rfl rfl; have z2_5 := hS.cell 2 5 rfl rfl; have z2_6 := hS.cell 2 6 rfl rfl; have z2_7 := hS.cell 2 7 rfl rfl; have z3_0 := hS.cell 3 0 rfl rfl; have z3_1 := hS.cell 3 1 rfl rfl; have z3_2 := hS.cell 3 2 rfl rfl; have z3_3 := hS.cell 3 3 rfl rfl; have z3_4 := hS.cell 3 4 rfl rfl; have z3_5 := hS.cell 3 5 rfl rfl; have z3_6 := hS.cell 3 6 rfl rfl; have z3_7 := hS.cell 3 7 rfl rfl
        have zf2 := hS.free 2 rfl
        have HS := Lib.hid hS
        clear hS
        go_wp2_with fail
        have r := ((((((((HS.out.set 2 0 rfl (.int .i64 (lim v 0))).set 2 1 rfl (.int .i64 (lim v 1))).set 2 2 rfl (.int .i64 (lim v 2))).set 2 3 rfl (.int .i64 (lim v 3))).set 2 4 rfl (.int .i64 (lim v 4))).set 2 5 rfl (.int .i64 (lim v 5))).set 2 6 rfl (.int .i64 (lim v 6))).set 2 7 rfl (.int .i64 (lim v 7)))
        have r0 := r.cell 2 0 rfl rfl
        have r1 := r.cell 2 1 rfl rfl
        have r2 := r.cell 2 2 rfl rfl
        have r3 := r.cell 2 3 rfl rfl
        have r4 := r.cell 2 4 rfl rfl
        have r5 := r.cell 2 5 rfl rfl
        have r6 := r.cell 2 6 rfl rfl
        have r7 := r.cell 2 7 rfl rfl
        exact bodyPost_ret (v := .tuple #[.agg #[.int .i64 (lim (v) 0), .int .i64 (lim (v) 1), .int .i64 (lim (v) 2), .int .i64 (lim (v) 3), .int .i64 (lim (v) 4), .int .i64 (lim (v) 5), .int .i64 (lim (v) 6), .int .i64 (lim (v) 7)], .bool true]) (by simp [results, Tryd.results46, go_sem, r0, r1, r2, r3, r4, r5, r6, r7]) rfl ⟨.inl ⟨hfit, by rw [HV.out.2.2.2.2.2.2 hfit]⟩, r.bel⟩
end Go.Proofs.YthhgnngpaagagaaDoor
