/-
  The contract of aggr.order. (Printed by mk.py.)
-/
import Derived.Test.YthhgnngpaagagaaDoorAgB
import Derived.Test.YthhgnngpaagagaaDoorPt
namespace Go.Proofs.YthhgnngpaagagaaDoor
open Go.RowKit
set_option linter.unusedVariables false
set_option linter.unusedSimpArgs false
def ordI (p q : Pt) : Int := orI (cmpI p.t q.t) (cmpI p.s q.s) (cmpI p.v q.v)
structure OA (w : World) (x : Nat) (p q : Pt) (w' : World) : Prop where
  bel : Below x w w'
  hx : x = w.heap.size
  a : Blk w' x 26 #[.int .i64 p.t, .int .i64 p.v, .int .i64 p.s]
  b : Blk w' (x + 1) 26 #[.int .i64 q.t, .int .i64 q.v, .int .i64 q.s]
namespace OA
variable {w w' w'' : World} {x : Nat} {p q : Pt}
theorem below (h : OA w x p q w') (hb : Below w'.heap.size w' w'') : OA w x p q w'' :=
  ⟨h.bel.trans (hb.mono (Nat.le_of_lt h.a.lt)), h.hx, h.a.below hb h.a.lt, h.b.below hb h.b.lt⟩
theorem a0 (h : OA w x p q w') : w'.cell? ⟨x, 0, none⟩ = some (.int .i64 p.t) := by simpa using h.a.cell 0
theorem a1 (h : OA w x p q w') : w'.cell? ⟨x, 1, none⟩ = some (.int .i64 p.v) := by simpa using h.a.cell 1
theorem a2 (h : OA w x p q w') : w'.cell? ⟨x, 2, none⟩ = some (.int .i64 p.s) := by simpa using h.a.cell 2
theorem b0 (h : OA w x p q w') : w'.cell? ⟨x + 1, 0, none⟩ = some (.int .i64 q.t) := by simpa using h.b.cell 0
theorem b1 (h : OA w x p q w') : w'.cell? ⟨x + 1, 1, none⟩ = some (.int .i64 q.v) := by simpa using h.b.cell 1
theorem b2 (h : OA w x p q w') : w'.cell? ⟨x + 1, 2, none⟩ = some (.int .i64 q.s) := by simpa using h.b.cell 2
end OA
theorem oa_cmp {w w' : World} {x : Nat} {p q : Pt} (h : OA w x p q w') (a b : Int) :
    Calls Tryd.prog 39 #[.int .i64 a, .int .i64 b] w' fun e w'' => e = .returned (.int .i64 (cmpI a b)) ∧ OA w x p q w'' := by
  refine (compare_any _ _ _).mono ?_
  rintro e w'' ⟨rfl, rfl⟩
  exact ⟨rfl, h⟩
theorem row3 (w : World) (t : TypeId) (a b c : Value) : (w.alloc (.cells #[a, b, c] t)).cell? ⟨w.heap.size, 0, none⟩ = some a ∧ (w.alloc (.cells #[a, b, c] t)).cell? ⟨w.heap.size, 1, none⟩ = some b ∧ (w.alloc (.cells #[a, b, c] t)).cell? ⟨w.heap.size, 2, none⟩ = some c := by
  have h := Blk.fresh w t #[a, b, c]
  exact ⟨(h.cell 0).trans rfl, (h.cell 1).trans rfl, (h.cell 2).trans rfl⟩
set_option maxRecDepth 100000 in
set_option maxHeartbeats 4000000 in
theorem order_any (p q : Pt) (w : World) : Calls Tryd.prog 20 #[.agg #[.int .i64 p.t, .int .i64 p.v, .int .i64 p.s], .agg #[.int .i64 q.t, .int .i64 q.v, .int .i64 q.s]] w fun e w' => e = .returned (.int .i64 (ordI p q)) ∧ Below w.heap.size w w' := by
  have fin : ∀ w', Below w.heap.size w w' → (Ending.returned (.int .i64 (orI (cmpI p.t q.t) (cmpI p.s q.s) (cmpI p.v q.v))) = .returned (.int .i64 (ordI p q)) ∧ Below w.heap.size w w') := fun w' h => ⟨rfl, h⟩
  have FIN := Lib.hid fin
  clear fin
  obtain ⟨x, hx⟩ : ∃ x, x = w.heap.size := ⟨_, rfl⟩
  have hS0 : OA w x p q ((w.alloc (.cells #[.int .i64 p.t, .int .i64 p.v, .int .i64 p.s] 26)).alloc (.cells #[.int .i64 q.t, .int .i64 q.v, .int .i64 q.s] 26)) := by
    have b0 := Blk.fresh w 26 #[.int .i64 p.t, .int .i64 p.v, .int .i64 p.s]
    have bA := ((Below.refl w.heap.size w).alloc (Nat.le_refl _) (.cells #[.int .i64 p.t, .int .i64 p.v, .int .i64 p.s] 26))
    generalize hW : w.alloc (.cells #[.int .i64 p.t, .int .i64 p.v, .int .i64 p.s] 26) = W at *
    have hWs : W.heap.size = x + 1 := by rw [← hW, hx]; simp
    have b1 := Blk.fresh W 26 #[.int .i64 q.t, .int .i64 q.v, .int .i64 q.s]
    have stp := ((Below.refl W.heap.size W).alloc (Nat.le_refl _) (.cells #[.int .i64 q.t, .int .i64 q.v, .int .i64 q.s] 26))
    refine ⟨?_, hx, ?_, ?_⟩
    · rw [hx]; exact bA.trans (stp.mono (by omega))
    · rw [hx]; exact b0.below stp (by omega)
    · rw [← hWs]; exact b1
  have HX := Lib.hid (And.intro hx hS0)
  clear hx hS0
  go_enter Tryd.func20, Tryd.ntmps20
  go_wp2_with fail
  rw [← HX.out.1]
  have hS1 := HX.out.2.below (Below.refl _ _).drew
  generalize ((w.alloc (.cells #[.int .i64 p.t, .int .i64 p.v, .int .i64 p.s] 26)).alloc (.cells #[.int .i64 q.t, .int .i64 q.v, .int .i64 q.s] 26)) = w2 at hS1 ⊢
  have hS : (OA w x p q) (w2.drew) := hS1
  refine reg_start (OA w x p q) (by kernel_rfl) hS ?_
  refine reg_take (i := 0) (v := ?_) rfl (by kernel_rfl) (by kernel_rfl) (by kernel_rfl) (fun _ _ _ h => h) (Or.inl ⟨by kernel_rfl, ?_⟩) hS ?_
  rotate_left
  · (intro w' hSw; have z0 := hSw.a0; have z1 := hSw.a1; have z2 := hSw.a2; have z3 := hSw.b0; have z4 := hSw.b1; have z5 := hSw.b2; go_simp <;> with_reducible rfl)
  try simp only [List.getElem_toArray, List.getElem_cons_succ, List.getElem_cons_zero, Act.put, List.setIfInBounds_toArray, List.set_cons_zero, List.set_cons_succ]
  refine reg_take (i := 1) (v := ?_) rfl (by kernel_rfl) (by kernel_rfl) (by kernel_rfl) (fun _ _ _ h => h) (Or.inl ⟨by kernel_rfl, ?_⟩) hS ?_
  rotate_left
  · (intro w' hSw; have z0 := hSw.a0; have z1 := hSw.a1; have z2 := hSw.a2; have z3 := hSw.b0; have z4 := hSw.b1; have z5 := hSw.b2; go_simp <;> with_reducible rfl)
  try simp only [List.getElem_toArray, List.getElem_cons_succ, List.getElem_cons_zero, Act.put, List.setIfInBounds_toArray, List.set_cons_zero, List.set_cons_succ]
  refine reg_take (i := 2) (v := ?_) rfl (by kernel_rfl) (by kernel_rfl) (by kernel_rfl) (fun _ _ _ h => h) (Or.inl ⟨by kernel_rfl, ?_⟩) hS ?_
  rotate_left
  · (intro w' hSw; have z0 := hSw.a0; have z1 := hSw.a1; have z2 := hSw.a2; have z3 := hSw.b0; have z4 := hSw.b1; have z5 := hSw.b2; go_simp <;> with_reducible rfl)
  try simp only [List.getElem_toArray, List.getElem_cons_succ, List.getElem_cons_zero, Act.put, List.setIfInBounds_toArray, List.set_cons_zero, List.set_cons_succ]
  refine reg_take (i := 3) (v := ?_) rfl (by kernel_rfl) (by kernel_rfl) (by kernel_rfl) (fun _ _ _ h => h) (Or.inl ⟨by kernel_rfl, ?_⟩) hS ?_
  rotate_left
  · (intro w' hSw; have z0 := hSw.a0; have z1 := hSw.a1; have z2 := hSw.a2; have z3 := hSw.b0; have z4 := hSw.b1; have z5 := hSw.b2; go_simp <;> with_reducible rfl)
  try simp only [List.getElem_toArray, List.getElem_cons_succ, List.getElem_cons_zero, Act.put, List.setIfInBounds_toArray, List.set_cons_zero, List.set_cons_succ]
  refine reg_take (i := 5) (v := ?_) rfl (by kernel_rfl) (by kernel_rfl) (by kernel_rfl) (fun _ _ _ h => h) (Or.inl ⟨by kernel_rfl, ?_⟩) hS ?_
  rotate_left
  · (intro w' hSw; have z0 := hSw.a0; have z1 := hSw.a1; have z2 := hSw.a2; have z3 := hSw.b0; have z4 := hSw.b1; have z5 := hSw.b2; go_simp <;> with_reducible rfl)
  try simp only [List.getElem_toArray, List.getElem_cons_succ, List.getElem_cons_zero, Act.put, List.setIfInBounds_toArray, List.set_cons_zero, List.set_cons_succ]
  refine reg_take (i := 6) (v := ?_) rfl (by kernel_rfl) (by kernel_rfl) (by kernel_rfl) (fun _ _ _ h => h) (Or.inl ⟨by kernel_rfl, ?_⟩) hS ?_
  rotate_left
  · (intro w' hSw; have z0 := hSw.a0; have z1 := hSw.a1; have z2 := hSw.a2; have z3 := hSw.b0; have z4 := hSw.b1; have z5 := hSw.b2; go_simp <;> with_reducible rfl)
  try simp only [List.getElem_toArray, List.getElem_cons_succ, List.getElem_cons_zero, Act.put, List.setIfInBounds_toArray, List.set_cons_zero, List.set_cons_succ]
  refine reg_take (i := 7) (v := ?_) rfl (by kernel_rfl) (by kernel_rfl) (by kernel_rfl) (fun _ _ _ h => h) (Or.inl ⟨by kernel_rfl, ?_⟩) hS ?_
  rotate_left
  · (intro w' hSw; have z0 := hSw.a0; have z1 := hSw.a1; have z2 := hSw.a2; have z3 := hSw.b0; have z4 := hSw.b1; have z5 := hSw.b2; go_simp <;> with_reducible rfl)
  try simp only [List.getElem_toArray, List.getElem_cons_succ, List.getElem_cons_zero, Act.put, List.setIfInBounds_toArray, List.set_cons_zero, List.set_cons_succ]
  refine reg_take (i := 8) (v := ?_) rfl (by kernel_rfl) (by kernel_rfl) (by kernel_rfl) (fun _ _ _ h => h) (Or.inl ⟨by kernel_rfl, ?_⟩) hS ?_
  rotate_left
  · (intro w' hSw; have z0 := hSw.a0; have z1 := hSw.a1; have z2 := hSw.a2; have z3 := hSw.b0; have z4 := hSw.b1; have z5 := hSw.b2; go_simp <;> with_reducible rfl)
  try simp only [List.getElem_toArray, List.getElem_cons_succ, List.getElem_cons_zero, Act.put, List.setIfInBounds_toArray, List.set_cons_zero, List.set_cons_succ]
  refine reg_take (i := 10) (v := ?_) rfl (by kernel_rfl) (by kernel_rfl) (by kernel_rfl) (fun _ _ _ h => h) (Or.inl ⟨by kernel_rfl, ?_⟩) hS ?_
  rotate_left
  · (intro w' hSw; have z0 := hSw.a0; have z1 := hSw.a1; have z2 := hSw.a2; have z3 := hSw.b0; have z4 := hSw.b1; have z5 := hSw.b2; go_simp <;> with_reducible rfl)
  try simp only [List.getElem_toArray, List.getElem_cons_succ, List.getElem_cons_zero, Act.put, List.setIfInBounds_toArray, List.set_cons_zero, List.set_cons_succ]
  refine reg_take (i := 11) (v := ?_) rfl (by kernel_rfl) (by kernel_rfl) (by kernel_rfl) (fun _ _ _ h => h) (Or.inl ⟨by kernel_rfl, ?_⟩) hS ?_
  rotate_left
  · (intro w' hSw; have z0 := hSw.a0; have z1 := hSw.a1; have z2 := hSw.a2; have z3 := hSw.b0; have z4 := hSw.b1; have z5 := hSw.b2; go_simp <;> with_reducible rfl)
  try simp only [List.getElem_toArray, List.getElem_cons_succ, List.getElem_cons_zero, Act.put, List.setIfInBounds_toArray, List.set_cons_zero, List.set_cons_succ]
  refine reg_take (i := 12) (v := ?_) rfl (by kernel_rfl) (by kernel_rfl) (by kernel_rfl) (fun _ _ _ h => h) (Or.inl ⟨by kernel_rfl, ?_⟩) hS ?_
  rotate_left
  · (intro w' hSw; have z0 := hSw.a0; have z1 := hSw.a1; have z2 := hSw.a2; have z3 := hSw.b0; have z4 := hSw.b1; have z5 := hSw.b2; go_simp <;> with_reducible rfl)
  try simp only [List.getElem_toArray, List.getElem_cons_succ, List.getElem_cons_zero, Act.put, List.setIfInBounds_toArray, List.set_cons_zero, List.set_cons_succ]
  refine reg_take (i := 13) (v := ?_) rfl (by kernel_rfl) (by kernel_rfl) (by kernel_rfl) (fun _ _ _ h => h) (Or.inl ⟨by kernel_rfl, ?_⟩) hS ?_
  rotate_left
  · (intro w' hSw; have z0 := hSw.a0; have z1 := hSw.a1; have z2 := hSw.a2; have z3 := hSw.b0; have z4 := hSw.b1; have z5 := hSw.b2; go_simp <;> with_reducible rfl)
  try simp only [List.getElem_toArray, List.getElem_cons_succ, List.getElem_cons_zero, Act.put, List.setIfInBounds_toArray, List.set_cons_zero, List.set_cons_succ]
  refine reg_call (i := 4) rfl (by kernel_rfl) (fun K hK => ?_)
  have HK := Lib.hid hK
  clear hK
  go_simp
  refine (oa_cmp hS p.t q.t).mono ?_
  rintro e w3 ⟨rfl, h3⟩
  have H3 := Lib.hid h3
  clear h3
  go_wp2_with fail
  refine HK.out.to (OA w x p q) (fun _ h => h) (H3.out) ?_
  clear HK hS
  have hS : (OA w x p q) (w3) := H3.out
  try simp only [List.getElem_toArray, List.getElem_cons_succ, List.getElem_cons_zero, Act.put, List.setIfInBounds_toArray, List.set_cons_zero, List.set_cons_succ]
  refine reg_call (i := 9) rfl (by kernel_rfl) (fun K hK => ?_)
  have HK := Lib.hid hK
  clear hK
  go_simp
  refine (oa_cmp hS p.s q.s).mono ?_
  rintro e w4 ⟨rfl, h4⟩
  have H4 := Lib.hid h4
  clear h4
  go_wp2_with fail
  refine HK.out.to (OA w x p q) (fun _ h => h) (H4.out) ?_
  clear HK hS
  have hS : (OA w x p q) (w4) := H4.out
  try simp only [List.getElem_toArray, List.getElem_cons_succ, List.getElem_cons_zero, Act.put, List.setIfInBounds_toArray, List.set_cons_zero, List.set_cons_succ]
  refine reg_call (i := 14) rfl (by kernel_rfl) (fun K hK => ?_)
  have HK := Lib.hid hK
  clear hK
  go_simp
  refine (oa_cmp hS p.v q.v).mono ?_
  rintro e w5 ⟨rfl, h5⟩
  have H5 := Lib.hid h5
  clear h5
  go_wp2_with fail
  refine HK.out.to (OA w x p q) (fun _ h => h) (H5.out) ?_
  clear HK hS
  have hS : (OA w x p q) (w5) := H5.out
  try simp only [List.getElem_toArray, List.getElem_cons_succ, List.getElem_cons_zero, Act.put, List.setIfInBounds_toArray, List.set_cons_zero, List.set_cons_succ]
  have HA := Lib.hid (hS.below ((Below.refl w5.heap.size w5).alloc (Nat.le_refl _) (.cells #[.int .i64 (cmpI p.t q.t), .int .i64 (cmpI p.s q.s), .int .i64 (cmpI p.v q.v)] 3)))
  refine reg_call (i := 15) rfl (by kernel_rfl) (fun K hK => ?_)
  have HK := Lib.hid hK
  clear hK
  go_simp
  go_wp2_with fail
  refine HK.out.to (OA w x p q) (fun _ h => h) (HA.out) ?_
  clear HK hS
  have hS : (OA w x p q) (w5.alloc (.cells #[.int .i64 (cmpI p.t q.t), .int .i64 (cmpI p.s q.s), .int .i64 (cmpI p.v q.v)] 3)) := HA.out
  try simp only [List.getElem_toArray, List.getElem_cons_succ, List.getElem_cons_zero, Act.put, List.setIfInBounds_toArray, List.set_cons_zero, List.set_cons_succ]
  obtain ⟨r0, r1, r2⟩ := row3 w5 3 (.int .i64 (cmpI p.t q.t)) (.int .i64 (cmpI p.s q.s)) (.int .i64 (cmpI p.v q.v))
  refine reg_call (i := 16) rfl (by kernel_rfl) (fun K hK => ?_)
  have HK := Lib.hid hK
  clear hK
  go_simp
  refine (or_any _ _ _ _ _ _ r0 r1 r2).mono ?_
  rintro e w6 ⟨rfl, rfl⟩
  go_wp2_with fail
  refine HK.out.to (OA w x p q) (fun _ h => h) (HA.out) ?_
  clear HK hS
  have hS : (OA w x p q) (w5.alloc (.cells #[.int .i64 (cmpI p.t q.t), .int .i64 (cmpI p.s q.s), .int .i64 (cmpI p.v q.v)] 3)) := HA.out
  try simp only [List.getElem_toArray, List.getElem_cons_succ, List.getElem_cons_zero, Act.put, List.setIfInBounds_toArray, List.set_cons_zero, List.set_cons_succ]
  refine reg_take (i := 17) (v := ?_) rfl (by kernel_rfl) (by kernel_rfl) (by kernel_rfl) (fun _ _ _ h => h) (Or.inl ⟨by kernel_rfl, ?_⟩) hS ?_
  rotate_left
  · (intro w' hSw; go_simp <;> with_reducible rfl)
  try simp only [List.getElem_toArray, List.getElem_cons_succ, List.getElem_cons_zero, Act.put, List.setIfInBounds_toArray, List.set_cons_zero, List.set_cons_succ]
  refine wpAnyH_done (by kernel_rfl) ?_ _
  try simp only [List.getElem_toArray, List.getElem_cons_succ, List.getElem_cons_zero]
  try simp only [List.getElem_toArray, List.getElem_cons_succ, List.getElem_cons_zero, Act.put, List.setIfInBounds_toArray, List.set_cons_zero, List.set_cons_succ]
  go_wp2_with fail
  go_ret
  exact FIN.out _ (by have := hS.hx; rw [← this]; exact hS.bel)
end Go.Proofs.YthhgnngpaagagaaDoor
