/-
  The contracts of tidemillref08.Of and tidemilllaw08.own. (Printed by mk.py.)
-/
import Derived.Test.YthhgnngpaagagaaDoorLmC
import Derived.Test.YthhgnngpaagagaaDoorAgE
namespace Go.Proofs.YthhgnngpaagagaaDoor
open Go.RowKit
set_option linter.unusedVariables false
set_option linter.unusedSimpArgs false
def ROfPost (a : Ag) (w : World) (e : Ending) (w' : World) : Prop := e = .returned (.agg #[.int .i64 a.n, .int .i64 (lim (a.s) 0), .int .i64 (lim (a.s) 1), .int .i64 (lim (a.s) 2), .int .i64 (lim (a.s) 3), .int .i64 (lim (a.s) 4), .int .i64 (lim (a.s) 5), .int .i64 (lim (a.s) 6), .int .i64 (lim (a.s) 7), .int .i64 a.lo, .int .i64 a.hi, .int .i64 a.f.t, .int .i64 a.f.v, .int .i64 a.f.s, .int .i64 a.l.t, .int .i64 a.l.v, .int .i64 a.l.s]) ∧ Below w.heap.size w w'
set_option maxRecDepth 100000 in
set_option maxHeartbeats 4000000 in
theorem own_any (a : Ag) (ha : AgOk a) (w : World) : Calls Tryd.prog 9 #[.agg #[.int .i64 a.n, .int .i64 (hiOf a.s), .int .u64 (loOf a.s), .int .i64 a.lo, .int .i64 a.hi, .int .i64 a.f.t, .int .i64 a.f.v, .int .i64 a.f.s, .int .i64 a.l.t, .int .i64 a.l.v, .int .i64 a.l.s]] w (ROfPost a w) := by
  have HP := Lib.hid ha.2.1
  clear ha
  obtain ⟨x, hx⟩ : ∃ x, x = w.heap.size := ⟨_, rfl⟩
  have o0 := ((Own.own2 w hx 28 #[.int .i64 a.n, .int .i64 (hiOf a.s), .int .u64 (loOf a.s), .int .i64 a.lo, .int .i64 a.hi, .int .i64 a.f.t, .int .i64 a.f.v, .int .i64 a.f.s, .int .i64 a.l.t, .int .i64 a.l.v, .int .i64 a.l.s] 35 #[.int .i64 0, .int .i64 0, .int .i64 0, .int .i64 0, .int .i64 0, .int .i64 0, .int .i64 0, .int .i64 0, .int .i64 0, .int .i64 0, .int .i64 0, .int .i64 0, .int .i64 0, .int .i64 0, .int .i64 0, .int .i64 0, .int .i64 0]).front 1 rfl).drew
  have HO := Lib.hid (And.intro hx o0)
  clear hx o0
  go_enter Tryd.func9, Tryd.ntmps9
  go_wp2_with fail
  rw [← HO.out.1]
  have hS1 : OwnR w (x + 1) 35 17 [(x, 28, #[.int .i64 a.n, .int .i64 (hiOf a.s), .int .u64 (loOf a.s), .int .i64 a.lo, .int .i64 a.hi, .int .i64 a.f.t, .int .i64 a.f.v, .int .i64 a.f.s, .int .i64 a.l.t, .int .i64 a.l.v, .int .i64 a.l.s])] _ := OwnR.of HO.out.2 rfl
  generalize ((w.alloc (.cells #[.int .i64 a.n, .int .i64 (hiOf a.s), .int .u64 (loOf a.s), .int .i64 a.lo, .int .i64 a.hi, .int .i64 a.f.t, .int .i64 a.f.v, .int .i64 a.f.s, .int .i64 a.l.t, .int .i64 a.l.v, .int .i64 a.l.s] 28)).alloc (.cells #[.int .i64 0, .int .i64 0, .int .i64 0, .int .i64 0, .int .i64 0, .int .i64 0, .int .i64 0, .int .i64 0, .int .i64 0, .int .i64 0, .int .i64 0, .int .i64 0, .int .i64 0, .int .i64 0, .int .i64 0, .int .i64 0, .int .i64 0] 35)) = w2 at hS1 ⊢
  have hS : (OwnR w (x + 1) 35 17 [(x, 28, #[.int .i64 a.n, .int .i64 (hiOf a.s), .int .u64 (loOf a.s), .int .i64 a.lo, .int .i64 a.hi, .int .i64 a.f.t, .int .i64 a.f.v, .int .i64 a.f.s, .int .i64 a.l.t, .int .i64 a.l.v, .int .i64 a.l.s])]) (w2.drew) := hS1
  refine reg_start (OwnR w (x + 1) 35 17 [(x, 28, #[.int .i64 a.n, .int .i64 (hiOf a.s), .int .u64 (loOf a.s), .int .i64 a.lo, .int .i64 a.hi, .int .i64 a.f.t, .int .i64 a.f.v, .int .i64 a.f.s, .int .i64 a.l.t, .int .i64 a.l.v, .int .i64 a.l.s])]) (by kernel_rfl) hS ?_
  refine reg_take (i := 0) (v := ?_) rfl (by kernel_rfl) (by kernel_rfl) (by kernel_rfl) (fun _ _ _ h => h) (Or.inl ⟨by kernel_rfl, ?_⟩) hS ?_
  rotate_left
  · (intro w' hSw; have hSw := hSw.rest; have z0_0 := hSw.cell 0 0 rfl rfl; have z0_1 := hSw.cell 0 1 rfl rfl; have z0_2 := hSw.cell 0 2 rfl rfl; have z0_3 := hSw.cell 0 3 rfl rfl; have z0_4 := hSw.cell 0 4 rfl rfl; have z0_5 := hSw.cell 0 5 rfl rfl; have z0_6 := hSw.cell 0 6 rfl rfl; have z0_7 := hSw.cell 0 7 rfl rfl; have z0_8 := hSw.cell 0 8 rfl rfl; have z0_9 := hSw.cell 0 9 rfl rfl; have z0_10 := hSw.cell 0 10 rfl rfl; go_simp <;> with_reducible rfl)
  try simp only [List.getElem_toArray, List.getElem_cons_succ, List.getElem_cons_zero, Act.put, List.setIfInBounds_toArray, List.set_cons_zero, List.set_cons_succ]
  refine reg_take (i := 1) (v := ?_) rfl (by kernel_rfl) (by kernel_rfl) (by kernel_rfl) (fun _ _ _ h => h) (Or.inl ⟨by kernel_rfl, ?_⟩) hS ?_
  rotate_left
  · (intro w' hSw; have hSw := hSw.rest; have z0_0 := hSw.cell 0 0 rfl rfl; have z0_1 := hSw.cell 0 1 rfl rfl; have z0_2 := hSw.cell 0 2 rfl rfl; have z0_3 := hSw.cell 0 3 rfl rfl; have z0_4 := hSw.cell 0 4 rfl rfl; have z0_5 := hSw.cell 0 5 rfl rfl; have z0_6 := hSw.cell 0 6 rfl rfl; have z0_7 := hSw.cell 0 7 rfl rfl; have z0_8 := hSw.cell 0 8 rfl rfl; have z0_9 := hSw.cell 0 9 rfl rfl; have z0_10 := hSw.cell 0 10 rfl rfl; go_simp <;> with_reducible rfl)
  try simp only [List.getElem_toArray, List.getElem_cons_succ, List.getElem_cons_zero, Act.put, List.setIfInBounds_toArray, List.set_cons_zero, List.set_cons_succ]
  refine reg_take (i := 2) (v := ?_) rfl (by kernel_rfl) (by kernel_rfl) (by kernel_rfl) (fun _ _ _ h => h) (Or.inl ⟨by kernel_rfl, ?_⟩) hS ?_
  rotate_left
  · (intro w' hSw; have hSw := hSw.rest; have z0_0 := hSw.cell 0 0 rfl rfl; have z0_1 := hSw.cell 0 1 rfl rfl; have z0_2 := hSw.cell 0 2 rfl rfl; have z0_3 := hSw.cell 0 3 rfl rfl; have z0_4 := hSw.cell 0 4 rfl rfl; have z0_5 := hSw.cell 0 5 rfl rfl; have z0_6 := hSw.cell 0 6 rfl rfl; have z0_7 := hSw.cell 0 7 rfl rfl; have z0_8 := hSw.cell 0 8 rfl rfl; have z0_9 := hSw.cell 0 9 rfl rfl; have z0_10 := hSw.cell 0 10 rfl rfl; go_simp <;> with_reducible rfl)
  try simp only [List.getElem_toArray, List.getElem_cons_succ, List.getElem_cons_zero, Act.put, List.setIfInBounds_toArray, List.set_cons_zero, List.set_cons_succ]
  refine reg_take (i := 3) (v := ?_) rfl (by kernel_rfl) (by kernel_rfl) (by kernel_rfl) (fun _ _ _ h => h) (Or.inl ⟨by kernel_rfl, ?_⟩) hS ?_
  rotate_left
  · (intro w' hSw; have hSw := hSw.rest; have z0_0 := hSw.cell 0 0 rfl rfl; have z0_1 := hSw.cell 0 1 rfl rfl; have z0_2 := hSw.cell 0 2 rfl rfl; have z0_3 := hSw.cell 0 3 rfl rfl; have z0_4 := hSw.cell 0 4 rfl rfl; have z0_5 := hSw.cell 0 5 rfl rfl; have z0_6 := hSw.cell 0 6 rfl rfl; have z0_7 := hSw.cell 0 7 rfl rfl; have z0_8 := hSw.cell 0 8 rfl rfl; have z0_9 := hSw.cell 0 9 rfl rfl; have z0_10 := hSw.cell 0 10 rfl rfl; go_simp <;> with_reducible rfl)
  try simp only [List.getElem_toArray, List.getElem_cons_succ, List.getElem_cons_zero, Act.put, List.setIfInBounds_toArray, List.set_cons_zero, List.set_cons_succ]
  refine reg_take (i := 4) (v := ?_) rfl (by kernel_rfl) (by kernel_rfl) (by kernel_rfl) (fun _ _ _ h => h) (Or.inl ⟨by kernel_rfl, ?_⟩) hS ?_
  rotate_left
  · (intro w' hSw; have hSw := hSw.rest; have z0_0 := hSw.cell 0 0 rfl rfl; have z0_1 := hSw.cell 0 1 rfl rfl; have z0_2 := hSw.cell 0 2 rfl rfl; have z0_3 := hSw.cell 0 3 rfl rfl; have z0_4 := hSw.cell 0 4 rfl rfl; have z0_5 := hSw.cell 0 5 rfl rfl; have z0_6 := hSw.cell 0 6 rfl rfl; have z0_7 := hSw.cell 0 7 rfl rfl; have z0_8 := hSw.cell 0 8 rfl rfl; have z0_9 := hSw.cell 0 9 rfl rfl; have z0_10 := hSw.cell 0 10 rfl rfl; go_simp <;> with_reducible rfl)
  try simp only [List.getElem_toArray, List.getElem_cons_succ, List.getElem_cons_zero, Act.put, List.setIfInBounds_toArray, List.set_cons_zero, List.set_cons_succ]
  refine reg_take (i := 5) (v := ?_) rfl (by kernel_rfl) (by kernel_rfl) (by kernel_rfl) (fun _ _ _ h => h) (Or.inl ⟨by kernel_rfl, ?_⟩) hS ?_
  rotate_left
  · (intro w' hSw; have hSw := hSw.rest; have z0_0 := hSw.cell 0 0 rfl rfl; have z0_1 := hSw.cell 0 1 rfl rfl; have z0_2 := hSw.cell 0 2 rfl rfl; have z0_3 := hSw.cell 0 3 rfl rfl; have z0_4 := hSw.cell 0 4 rfl rfl; have z0_5 := hSw.cell 0 5 rfl rfl; have z0_6 := hSw.cell 0 6 rfl rfl; have z0_7 := hSw.cell 0 7 rfl rfl; have z0_8 := hSw.cell 0 8 rfl rfl; have z0_9 := hSw.cell 0 9 rfl rfl; have z0_10 := hSw.cell 0 10 rfl rfl; go_simp <;> with_reducible rfl)
  try simp only [List.getElem_toArray, List.getElem_cons_succ, List.getElem_cons_zero, Act.put, List.setIfInBounds_toArray, List.set_cons_zero, List.set_cons_succ]
  refine reg_take (i := 6) (v := ?_) rfl (by kernel_rfl) (by kernel_rfl) (by kernel_rfl) (fun _ _ _ h => h) (Or.inl ⟨by kernel_rfl, ?_⟩) hS ?_
  rotate_left
  · (intro w' hSw; have hSw := hSw.rest; have z0_0 := hSw.cell 0 0 rfl rfl; have z0_1 := hSw.cell 0 1 rfl rfl; have z0_2 := hSw.cell 0 2 rfl rfl; have z0_3 := hSw.cell 0 3 rfl rfl; have z0_4 := hSw.cell 0 4 rfl rfl; have z0_5 := hSw.cell 0 5 rfl rfl; have z0_6 := hSw.cell 0 6 rfl rfl; have z0_7 := hSw.cell 0 7 rfl rfl; have z0_8 := hSw.cell 0 8 rfl rfl; have z0_9 := hSw.cell 0 9 rfl rfl; have z0_10 := hSw.cell 0 10 rfl rfl; go_simp <;> with_reducible rfl)
  try simp only [List.getElem_toArray, List.getElem_cons_succ, List.getElem_cons_zero, Act.put, List.setIfInBounds_toArray, List.set_cons_zero, List.set_cons_succ]
  refine reg_take (i := 7) (v := ?_) rfl (by kernel_rfl) (by kernel_rfl) (by kernel_rfl) (fun _ _ _ h => h) (Or.inl ⟨by kernel_rfl, ?_⟩) hS ?_
  rotate_left
  · (intro w' hSw; have hSw := hSw.rest; have z0_0 := hSw.cell 0 0 rfl rfl; have z0_1 := hSw.cell 0 1 rfl rfl; have z0_2 := hSw.cell 0 2 rfl rfl; have z0_3 := hSw.cell 0 3 rfl rfl; have z0_4 := hSw.cell 0 4 rfl rfl; have z0_5 := hSw.cell 0 5 rfl rfl; have z0_6 := hSw.cell 0 6 rfl rfl; have z0_7 := hSw.cell 0 7 rfl rfl; have z0_8 := hSw.cell 0 8 rfl rfl; have z0_9 := hSw.cell 0 9 rfl rfl; have z0_10 := hSw.cell 0 10 rfl rfl; go_simp <;> with_reducible rfl)
  try simp only [List.getElem_toArray, List.getElem_cons_succ, List.getElem_cons_zero, Act.put, List.setIfInBounds_toArray, List.set_cons_zero, List.set_cons_succ]
  refine reg_take (i := 9) (v := ?_) rfl (by kernel_rfl) (by kernel_rfl) (by kernel_rfl) (fun _ _ _ h => h) (Or.inl ⟨by kernel_rfl, ?_⟩) hS ?_
  rotate_left
  · (intro w' hSw; have hSw := hSw.rest; have z0_0 := hSw.cell 0 0 rfl rfl; have z0_1 := hSw.cell 0 1 rfl rfl; have z0_2 := hSw.cell 0 2 rfl rfl; have z0_3 := hSw.cell 0 3 rfl rfl; have z0_4 := hSw.cell 0 4 rfl rfl; have z0_5 := hSw.cell 0 5 rfl rfl; have z0_6 := hSw.cell 0 6 rfl rfl; have z0_7 := hSw.cell 0 7 rfl rfl; have z0_8 := hSw.cell 0 8 rfl rfl; have z0_9 := hSw.cell 0 9 rfl rfl; have z0_10 := hSw.cell 0 10 rfl rfl; go_simp <;> with_reducible rfl)
  try simp only [List.getElem_toArray, List.getElem_cons_succ, List.getElem_cons_zero, Act.put, List.setIfInBounds_toArray, List.set_cons_zero, List.set_cons_succ]
  refine reg_take (i := 10) (v := ?_) rfl (by kernel_rfl) (by kernel_rfl) (by kernel_rfl) (fun _ _ _ h => h) (Or.inl ⟨by kernel_rfl, ?_⟩) hS ?_
  rotate_left
  · (intro w' hSw; have hSw := hSw.rest; have z0_0 := hSw.cell 0 0 rfl rfl; have z0_1 := hSw.cell 0 1 rfl rfl; have z0_2 := hSw.cell 0 2 rfl rfl; have z0_3 := hSw.cell 0 3 rfl rfl; have z0_4 := hSw.cell 0 4 rfl rfl; have z0_5 := hSw.cell 0 5 rfl rfl; have z0_6 := hSw.cell 0 6 rfl rfl; have z0_7 := hSw.cell 0 7 rfl rfl; have z0_8 := hSw.cell 0 8 rfl rfl; have z0_9 := hSw.cell 0 9 rfl rfl; have z0_10 := hSw.cell 0 10 rfl rfl; go_simp <;> with_reducible rfl)
  try simp only [List.getElem_toArray, List.getElem_cons_succ, List.getElem_cons_zero, Act.put, List.setIfInBounds_toArray, List.set_cons_zero, List.set_cons_succ]
  refine reg_take (i := 11) (v := ?_) rfl (by kernel_rfl) (by kernel_rfl) (by kernel_rfl) (fun _ _ _ h => h) (Or.inl ⟨by kernel_rfl, ?_⟩) hS ?_
  rotate_left
  · (intro w' hSw; have hSw := hSw.rest; have z0_0 := hSw.cell 0 0 rfl rfl; have z0_1 := hSw.cell 0 1 rfl rfl; have z0_2 := hSw.cell 0 2 rfl rfl; have z0_3 := hSw.cell 0 3 rfl rfl; have z0_4 := hSw.cell 0 4 rfl rfl; have z0_5 := hSw.cell 0 5 rfl rfl; have z0_6 := hSw.cell 0 6 rfl rfl; have z0_7 := hSw.cell 0 7 rfl rfl; have z0_8 := hSw.cell 0 8 rfl rfl; have z0_9 := hSw.cell 0 9 rfl rfl; have z0_10 := hSw.cell 0 10 rfl rfl; go_simp <;> with_reducible rfl)
  try simp only [List.getElem_toArray, List.getElem_cons_succ, List.getElem_cons_zero, Act.put, List.setIfInBounds_toArray, List.set_cons_zero, List.set_cons_succ]
  refine reg_take (i := 12) (v := ?_) rfl (by kernel_rfl) (by kernel_rfl) (by kernel_rfl) (fun _ _ _ h => h) (Or.inl ⟨by kernel_rfl, ?_⟩) hS ?_
  rotate_left
  · (intro w' hSw; have hSw := hSw.rest; have z0_0 := hSw.cell 0 0 rfl rfl; have z0_1 := hSw.cell 0 1 rfl rfl; have z0_2 := hSw.cell 0 2 rfl rfl; have z0_3 := hSw.cell 0 3 rfl rfl; have z0_4 := hSw.cell 0 4 rfl rfl; have z0_5 := hSw.cell 0 5 rfl rfl; have z0_6 := hSw.cell 0 6 rfl rfl; have z0_7 := hSw.cell 0 7 rfl rfl; have z0_8 := hSw.cell 0 8 rfl rfl; have z0_9 := hSw.cell 0 9 rfl rfl; have z0_10 := hSw.cell 0 10 rfl rfl; go_simp <;> with_reducible rfl)
  try simp only [List.getElem_toArray, List.getElem_cons_succ, List.getElem_cons_zero, Act.put, List.setIfInBounds_toArray, List.set_cons_zero, List.set_cons_succ]
  refine reg_take (i := 13) (v := ?_) rfl (by kernel_rfl) (by kernel_rfl) (by kernel_rfl) (fun _ _ _ h => h) (Or.inl ⟨by kernel_rfl, ?_⟩) hS ?_
  rotate_left
  · (intro w' hSw; have hSw := hSw.rest; have z0_0 := hSw.cell 0 0 rfl rfl; have z0_1 := hSw.cell 0 1 rfl rfl; have z0_2 := hSw.cell 0 2 rfl rfl; have z0_3 := hSw.cell 0 3 rfl rfl; have z0_4 := hSw.cell 0 4 rfl rfl; have z0_5 := hSw.cell 0 5 rfl rfl; have z0_6 := hSw.cell 0 6 rfl rfl; have z0_7 := hSw.cell 0 7 rfl rfl; have z0_8 := hSw.cell 0 8 rfl rfl; have z0_9 := hSw.cell 0 9 rfl rfl; have z0_10 := hSw.cell 0 10 rfl rfl; go_simp <;> with_reducible rfl)
  try simp only [List.getElem_toArray, List.getElem_cons_succ, List.getElem_cons_zero, Act.put, List.setIfInBounds_toArray, List.set_cons_zero, List.set_cons_succ]
  refine reg_take (i := 14) (v := ?_) rfl (by kernel_rfl) (by kernel_rfl) (by kernel_rfl) (fun _ _ _ h => h) (Or.inl ⟨by kernel_rfl, ?_⟩) hS ?_
  rotate_left
  · (intro w' hSw; have hSw := hSw.rest; have z0_0 := hSw.cell 0 0 rfl rfl; have z0_1 := hSw.cell 0 1 rfl rfl; have z0_2 := hSw.cell 0 2 rfl rfl; have z0_3 := hSw.cell 0 3 rfl rfl; have z0_4 := hSw.cell 0 4 rfl rfl; have z0_5 := hSw.cell 0 5 rfl rfl; have z0_6 := hSw.cell 0 6 rfl rfl; have z0_7 := hSw.cell 0 7 rfl rfl; have z0_8 := hSw.cell 0 8 rfl rfl; have z0_9 := hSw.cell 0 9 rfl rfl; have z0_10 := hSw.cell 0 10 rfl rfl; go_simp <;> with_reducible rfl)
  try simp only [List.getElem_toArray, List.getElem_cons_succ, List.getElem_cons_zero, Act.put, List.setIfInBounds_toArray, List.set_cons_zero, List.set_cons_succ]
  refine reg_take (i := 15) (v := ?_) rfl (by kernel_rfl) (by kernel_rfl) (by kernel_rfl) (fun _ _ _ h => h) (Or.inl ⟨by kernel_rfl, ?_⟩) hS ?_
  rotate_left
  · (intro w' hSw; have hSw := hSw.rest; have z0_0 := hSw.cell 0 0 rfl rfl; have z0_1 := hSw.cell 0 1 rfl rfl; have z0_2 := hSw.cell 0 2 rfl rfl; have z0_3 := hSw.cell 0 3 rfl rfl; have z0_4 := hSw.cell 0 4 rfl rfl; have z0_5 := hSw.cell 0 5 rfl rfl; have z0_6 := hSw.cell 0 6 rfl rfl; have z0_7 := hSw.cell 0 7 rfl rfl; have z0_8 := hSw.cell 0 8 rfl rfl; have z0_9 := hSw.cell 0 9 rfl rfl; have z0_10 := hSw.cell 0 10 rfl rfl; go_simp <;> with_reducible rfl)
  try simp only [List.getElem_toArray, List.getElem_cons_succ, List.getElem_cons_zero, Act.put, List.setIfInBounds_toArray, List.set_cons_zero, List.set_cons_succ]
  refine reg_take (i := 16) (v := ?_) rfl (by kernel_rfl) (by kernel_rfl) (by kernel_rfl) (fun _ _ _ h => h) (Or.inl ⟨by kernel_rfl, ?_⟩) hS ?_
  rotate_left
  · (intro w' hSw; have hSw := hSw.rest; have z0_0 := hSw.cell 0 0 rfl rfl; have z0_1 := hSw.cell 0 1 rfl rfl; have z0_2 := hSw.cell 0 2 rfl rfl; have z0_3 := hSw.cell 0 3 rfl rfl; have z0_4 := hSw.cell 0 4 rfl rfl; have z0_5 := hSw.cell 0 5 rfl rfl; have z0_6 := hSw.cell 0 6 rfl rfl; have z0_7 := hSw.cell 0 7 rfl rfl; have z0_8 := hSw.cell 0 8 rfl rfl; have z0_9 := hSw.cell 0 9 rfl rfl; have z0_10 := hSw.cell 0 10 rfl rfl; go_simp <;> with_reducible rfl)
  try simp only [List.getElem_toArray, List.getElem_cons_succ, List.getElem_cons_zero, Act.put, List.setIfInBounds_toArray, List.set_cons_zero, List.set_cons_succ]
  refine reg_call (i := 8) rfl (by kernel_rfl) (fun K hK => ?_)
  have HK := Lib.hid hK
  clear hK
  go_simp
  refine (limbs_any a.s HP.out _).mono ?_
  rintro e w3 ⟨rfl, h3⟩
  have H3 := Lib.hid (hS.call h3)
  clear h3
  go_wp2_with fail
  refine HK.out.to (OwnR w (x + 1) 35 17 [(x, 28, #[.int .i64 a.n, .int .i64 (hiOf a.s), .int .u64 (loOf a.s), .int .i64 a.lo, .int .i64 a.hi, .int .i64 a.f.t, .int .i64 a.f.v, .int .i64 a.f.s, .int .i64 a.l.t, .int .i64 a.l.v, .int .i64 a.l.s])]) (fun _ h => h) (H3.out) ?_
  clear HK hS
  have hS : (OwnR w (x + 1) 35 17 [(x, 28, #[.int .i64 a.n, .int .i64 (hiOf a.s), .int .u64 (loOf a.s), .int .i64 a.lo, .int .i64 a.hi, .int .i64 a.f.t, .int .i64 a.f.v, .int .i64 a.f.s, .int .i64 a.l.t, .int .i64 a.l.v, .int .i64 a.l.s])]) (w3) := H3.out
  try simp only [List.getElem_toArray, List.getElem_cons_succ, List.getElem_cons_zero, Act.put, List.setIfInBounds_toArray, List.set_cons_zero, List.set_cons_succ]
  refine reg_take (i := 17) (v := ?_) rfl (by kernel_rfl) (by kernel_rfl) (by kernel_rfl) (fun _ _ _ h => h) (Or.inl ⟨by kernel_rfl, ?_⟩) hS ?_
  rotate_left
  · (intro w' hSw; go_simp <;> with_reducible rfl)
  try simp only [List.getElem_toArray, List.getElem_cons_succ, List.getElem_cons_zero, Act.put, List.setIfInBounds_toArray, List.set_cons_zero, List.set_cons_succ]
  obtain ⟨c0, c1, c2, c3, c4, c5, c6, c7, c8, c9, c10, c11, c12, c13, c14, c15, c16, hO⟩ := hS.seventeen
  have z0_0 := hO.cell 0 0 rfl rfl; have z0_1 := hO.cell 0 1 rfl rfl; have z0_2 := hO.cell 0 2 rfl rfl; have z0_3 := hO.cell 0 3 rfl rfl; have z0_4 := hO.cell 0 4 rfl rfl; have z0_5 := hO.cell 0 5 rfl rfl; have z0_6 := hO.cell 0 6 rfl rfl; have z0_7 := hO.cell 0 7 rfl rfl; have z0_8 := hO.cell 0 8 rfl rfl; have z0_9 := hO.cell 0 9 rfl rfl; have z0_10 := hO.cell 0 10 rfl rfl; have z0_11 := hO.cell 0 11 rfl rfl; have z0_12 := hO.cell 0 12 rfl rfl; have z0_13 := hO.cell 0 13 rfl rfl; have z0_14 := hO.cell 0 14 rfl rfl; have z0_15 := hO.cell 0 15 rfl rfl; have z0_16 := hO.cell 0 16 rfl rfl
  have zf0 := hO.free 0 rfl
  have HW := Lib.hid (hS.put [.int .i64 a.n, .int .i64 (lim (a.s) 0), .int .i64 (lim (a.s) 1), .int .i64 (lim (a.s) 2), .int .i64 (lim (a.s) 3), .int .i64 (lim (a.s) 4), .int .i64 (lim (a.s) 5), .int .i64 (lim (a.s) 6), .int .i64 (lim (a.s) 7), .int .i64 a.lo, .int .i64 a.hi, .int .i64 a.f.t, .int .i64 a.f.v, .int .i64 a.f.s, .int .i64 a.l.t, .int .i64 a.l.v, .int .i64 a.l.s] rfl)
  clear hO
  refine reg_call (i := 18) rfl (by kernel_rfl) (fun K hK => ?_)
  have HK := Lib.hid hK
  clear hK
  go_simp
  go_wp2_with fail
  refine HK.out.go (Own w [(x + 1, 35, #[.int .i64 a.n, .int .i64 (lim (a.s) 0), .int .i64 (lim (a.s) 1), .int .i64 (lim (a.s) 2), .int .i64 (lim (a.s) 3), .int .i64 (lim (a.s) 4), .int .i64 (lim (a.s) 5), .int .i64 (lim (a.s) 6), .int .i64 (lim (a.s) 7), .int .i64 a.lo, .int .i64 a.hi, .int .i64 a.f.t, .int .i64 a.f.v, .int .i64 a.f.s, .int .i64 a.l.t, .int .i64 a.l.v, .int .i64 a.l.s]), (x, 28, #[.int .i64 a.n, .int .i64 (hiOf a.s), .int .u64 (loOf a.s), .int .i64 a.lo, .int .i64 a.hi, .int .i64 a.f.t, .int .i64 a.f.v, .int .i64 a.f.s, .int .i64 a.l.t, .int .i64 a.l.v, .int .i64 a.l.s])]) (fun _ h => OwnR.of h rfl) (HW.out) ?_
  clear HK hS
  intro w4 hS
  try simp only [List.getElem_toArray, List.getElem_cons_succ, List.getElem_cons_zero, Act.put, List.setIfInBounds_toArray, List.set_cons_zero, List.set_cons_succ]
  refine wpAnyH_done (by kernel_rfl) ?_ _
  try simp only [List.getElem_toArray, List.getElem_cons_succ, List.getElem_cons_zero]
  try simp only [List.getElem_toArray, List.getElem_cons_succ, List.getElem_cons_zero, Act.put, List.setIfInBounds_toArray, List.set_cons_zero, List.set_cons_succ]
  have z0_0 := hS.cell 0 0 rfl rfl; have z0_1 := hS.cell 0 1 rfl rfl; have z0_2 := hS.cell 0 2 rfl rfl; have z0_3 := hS.cell 0 3 rfl rfl; have z0_4 := hS.cell 0 4 rfl rfl; have z0_5 := hS.cell 0 5 rfl rfl; have z0_6 := hS.cell 0 6 rfl rfl; have z0_7 := hS.cell 0 7 rfl rfl; have z0_8 := hS.cell 0 8 rfl rfl; have z0_9 := hS.cell 0 9 rfl rfl; have z0_10 := hS.cell 0 10 rfl rfl; have z0_11 := hS.cell 0 11 rfl rfl; have z0_12 := hS.cell 0 12 rfl rfl; have z0_13 := hS.cell 0 13 rfl rfl; have z0_14 := hS.cell 0 14 rfl rfl; have z0_15 := hS.cell 0 15 rfl rfl; have z0_16 := hS.cell 0 16 rfl rfl
  have HS := Lib.hid hS
  clear hS
  go_wp2_with fail
  exact bodyPost_ret (v := .agg #[.int .i64 a.n, .int .i64 (lim (a.s) 0), .int .i64 (lim (a.s) 1), .int .i64 (lim (a.s) 2), .int .i64 (lim (a.s) 3), .int .i64 (lim (a.s) 4), .int .i64 (lim (a.s) 5), .int .i64 (lim (a.s) 6), .int .i64 (lim (a.s) 7), .int .i64 a.lo, .int .i64 a.hi, .int .i64 a.f.t, .int .i64 a.f.v, .int .i64 a.f.s, .int .i64 a.l.t, .int .i64 a.l.v, .int .i64 a.l.s]) (by simp [results, Tryd.results9, go_sem, z0_0, z0_1, z0_2, z0_3, z0_4, z0_5, z0_6, z0_7, z0_8, z0_9, z0_10, z0_11, z0_12, z0_13, z0_14, z0_15, z0_16]) rfl ⟨rfl, HS.out.bel⟩
end Go.Proofs.YthhgnngpaagagaaDoor
