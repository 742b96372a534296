/-
  The contracts of aggr.Of and aggr.Merge. (Printed by mk.py.)
-/
import Derived.Test.YthhgnngpaagagaaDoorAgC
namespace Go.Proofs.YthhgnngpaagagaaDoor
open Go.RowKit
set_option linter.unusedVariables false
set_option linter.unusedSimpArgs false
/-- What is told of points. -/
structure Ag where
  n : Int
  s : Int
  lo : Int
  hi : Int
  f : Pt
  l : Pt
def zeroA : Ag := ⟨0, 0, 0, 0, ⟨0, 0, 0⟩, ⟨0, 0, 0⟩⟩
def ofA (p : Pt) : Ag := ⟨1, p.v, p.v, p.v, p, p⟩
instance (s : Int) : Decidable (S128 s) := inferInstanceAs (Decidable (_ ∧ _))
def mergeA (a b : Ag) : Ag := ⟨a.n + b.n, a.s + b.s, if b.lo < a.lo then b.lo else a.lo, if a.hi < b.hi then b.hi else a.hi, if ordI b.f a.f < 0 then b.f else a.f, if 0 < ordI b.l a.l then b.l else a.l⟩
def mergeR (a b : Ag) : Ag × Int :=
  if a.n < 0 ∨ b.n < 0 then (zeroA, 2) else if a.n = 0 ∧ b.n = 0 then (zeroA, 0) else if a.n = 0 then (b, 0) else if b.n = 0 then (a, 0)
  else if ¬ S128 (a.s + b.s) ∨ 4611686018427387904 < a.n ∨ 4611686018427387904 - a.n < b.n then (zeroA, 3) else (mergeA a b, 0)
def MergePost (a b : Ag) (w : World) (e : Ending) (w' : World) : Prop :=
  ∃ (r : Ag) (er : Int), mergeR a b = (r, er) ∧ e = .returned (.tuple #[.agg #[.int .i64 r.n, .int .i64 (hiOf r.s), .int .u64 (loOf r.s), .int .i64 r.lo, .int .i64 r.hi, .int .i64 r.f.t, .int .i64 r.f.v, .int .i64 r.f.s, .int .i64 r.l.t, .int .i64 r.l.v, .int .i64 r.l.s], .int .i64 er]) ∧ Below w.heap.size w w'
def OfPost (p : Pt) (w : World) (e : Ending) (w' : World) : Prop := e = .returned (.agg #[.int .i64 (ofA p).n, .int .i64 (hiOf (ofA p).s), .int .u64 (loOf (ofA p).s), .int .i64 (ofA p).lo, .int .i64 (ofA p).hi, .int .i64 (ofA p).f.t, .int .i64 (ofA p).f.v, .int .i64 (ofA p).f.s, .int .i64 (ofA p).l.t, .int .i64 (ofA p).l.v, .int .i64 (ofA p).l.s]) ∧ Below w.heap.size w w'
set_option maxRecDepth 100000 in
set_option maxHeartbeats 4000000 in
theorem aggOf_any (p : Pt) (hp : I64 p.v) (w : World) : Calls Tryd.prog 51 #[.agg #[.int .i64 p.t, .int .i64 p.v, .int .i64 p.s]] w (OfPost p w) := by
  have HP := Lib.hid hp
  clear hp
  obtain ⟨x, hx⟩ : ∃ x, x = w.heap.size := ⟨_, rfl⟩
  have o0 := ((Own.own2 w hx 26 #[.int .i64 p.t, .int .i64 p.v, .int .i64 p.s] 28 #[.int .i64 0, .int .i64 0, .int .u64 0, .int .i64 0, .int .i64 0, .int .i64 0, .int .i64 0, .int .i64 0, .int .i64 0, .int .i64 0, .int .i64 0]).front 1 rfl).drew
  have HO := Lib.hid (And.intro hx o0)
  clear hx o0
  go_enter Tryd.func51, Tryd.ntmps51
  go_wp2_with fail
  rw [← HO.out.1]
  have hS1 : OwnR w (x + 1) 28 11 [(x, 26, #[.int .i64 p.t, .int .i64 p.v, .int .i64 p.s])] _ := OwnR.of HO.out.2 rfl
  generalize ((w.alloc (.cells #[.int .i64 p.t, .int .i64 p.v, .int .i64 p.s] 26)).alloc (.cells #[.int .i64 0, .int .i64 0, .int .u64 0, .int .i64 0, .int .i64 0, .int .i64 0, .int .i64 0, .int .i64 0, .int .i64 0, .int .i64 0, .int .i64 0] 28)) = w2 at hS1 ⊢
  have hS : (OwnR w (x + 1) 28 11 [(x, 26, #[.int .i64 p.t, .int .i64 p.v, .int .i64 p.s])]) (w2.drew) := hS1
  refine reg_start (OwnR w (x + 1) 28 11 [(x, 26, #[.int .i64 p.t, .int .i64 p.v, .int .i64 p.s])]) (by kernel_rfl) hS ?_
  refine reg_take (i := 0) (v := ?_) rfl (by kernel_rfl) (by kernel_rfl) (by kernel_rfl) (fun _ _ _ h => h) (Or.inl ⟨by kernel_rfl, ?_⟩) hS ?_
  rotate_left
  · (intro w' hSw; have hSw := hSw.rest; have z0_0 := hSw.cell 0 0 rfl rfl; have z0_1 := hSw.cell 0 1 rfl rfl; have z0_2 := hSw.cell 0 2 rfl rfl; go_simp <;> with_reducible rfl)
  try simp only [List.getElem_toArray, List.getElem_cons_succ, List.getElem_cons_zero, Act.put, List.setIfInBounds_toArray, List.set_cons_zero, List.set_cons_succ]
  refine reg_take (i := 1) (v := ?_) rfl (by kernel_rfl) (by kernel_rfl) (by kernel_rfl) (fun _ _ _ h => h) (Or.inl ⟨by kernel_rfl, ?_⟩) hS ?_
  rotate_left
  · (intro w' hSw; have hSw := hSw.rest; have z0_0 := hSw.cell 0 0 rfl rfl; have z0_1 := hSw.cell 0 1 rfl rfl; have z0_2 := hSw.cell 0 2 rfl rfl; go_simp <;> with_reducible rfl)
  try simp only [List.getElem_toArray, List.getElem_cons_succ, List.getElem_cons_zero, Act.put, List.setIfInBounds_toArray, List.set_cons_zero, List.set_cons_succ]
  refine reg_take (i := 3) (v := ?_) rfl (by kernel_rfl) (by kernel_rfl) (by kernel_rfl) (fun _ _ _ h => h) (Or.inl ⟨by kernel_rfl, ?_⟩) hS ?_
  rotate_left
  · (intro w' hSw; have hSw := hSw.rest; have z0_0 := hSw.cell 0 0 rfl rfl; have z0_1 := hSw.cell 0 1 rfl rfl; have z0_2 := hSw.cell 0 2 rfl rfl; go_simp <;> with_reducible rfl)
  try simp only [List.getElem_toArray, List.getElem_cons_succ, List.getElem_cons_zero, Act.put, List.setIfInBounds_toArray, List.set_cons_zero, List.set_cons_succ]
  refine reg_take (i := 4) (v := ?_) rfl (by kernel_rfl) (by kernel_rfl) (by kernel_rfl) (fun _ _ _ h => h) (Or.inl ⟨by kernel_rfl, ?_⟩) hS ?_
  rotate_left
  · (intro w' hSw; have hSw := hSw.rest; have z0_0 := hSw.cell 0 0 rfl rfl; have z0_1 := hSw.cell 0 1 rfl rfl; have z0_2 := hSw.cell 0 2 rfl rfl; go_simp <;> with_reducible rfl)
  try simp only [List.getElem_toArray, List.getElem_cons_succ, List.getElem_cons_zero, Act.put, List.setIfInBounds_toArray, List.set_cons_zero, List.set_cons_succ]
  refine reg_take (i := 5) (v := ?_) rfl (by kernel_rfl) (by kernel_rfl) (by kernel_rfl) (fun _ _ _ h => h) (Or.inl ⟨by kernel_rfl, ?_⟩) hS ?_
  rotate_left
  · (intro w' hSw; have hSw := hSw.rest; have z0_0 := hSw.cell 0 0 rfl rfl; have z0_1 := hSw.cell 0 1 rfl rfl; have z0_2 := hSw.cell 0 2 rfl rfl; go_simp <;> with_reducible rfl)
  try simp only [List.getElem_toArray, List.getElem_cons_succ, List.getElem_cons_zero, Act.put, List.setIfInBounds_toArray, List.set_cons_zero, List.set_cons_succ]
  refine reg_take (i := 6) (v := ?_) rfl (by kernel_rfl) (by kernel_rfl) (by kernel_rfl) (fun _ _ _ h => h) (Or.inl ⟨by kernel_rfl, ?_⟩) hS ?_
  rotate_left
  · (intro w' hSw; have hSw := hSw.rest; have z0_0 := hSw.cell 0 0 rfl rfl; have z0_1 := hSw.cell 0 1 rfl rfl; have z0_2 := hSw.cell 0 2 rfl rfl; go_simp <;> with_reducible rfl)
  try simp only [List.getElem_toArray, List.getElem_cons_succ, List.getElem_cons_zero, Act.put, List.setIfInBounds_toArray, List.set_cons_zero, List.set_cons_succ]
  refine reg_take (i := 7) (v := ?_) rfl (by kernel_rfl) (by kernel_rfl) (by kernel_rfl) (fun _ _ _ h => h) (Or.inl ⟨by kernel_rfl, ?_⟩) hS ?_
  rotate_left
  · (intro w' hSw; have hSw := hSw.rest; have z0_0 := hSw.cell 0 0 rfl rfl; have z0_1 := hSw.cell 0 1 rfl rfl; have z0_2 := hSw.cell 0 2 rfl rfl; go_simp <;> with_reducible rfl)
  try simp only [List.getElem_toArray, List.getElem_cons_succ, List.getElem_cons_zero, Act.put, List.setIfInBounds_toArray, List.set_cons_zero, List.set_cons_succ]
  refine reg_take (i := 8) (v := ?_) rfl (by kernel_rfl) (by kernel_rfl) (by kernel_rfl) (fun _ _ _ h => h) (Or.inl ⟨by kernel_rfl, ?_⟩) hS ?_
  rotate_left
  · (intro w' hSw; have hSw := hSw.rest; have z0_0 := hSw.cell 0 0 rfl rfl; have z0_1 := hSw.cell 0 1 rfl rfl; have z0_2 := hSw.cell 0 2 rfl rfl; go_simp <;> with_reducible rfl)
  try simp only [List.getElem_toArray, List.getElem_cons_succ, List.getElem_cons_zero, Act.put, List.setIfInBounds_toArray, List.set_cons_zero, List.set_cons_succ]
  refine reg_call (i := 2) rfl (by kernel_rfl) (fun K hK => ?_)
  have HK := Lib.hid hK
  clear hK
  go_simp
  refine (wideOf_any p.v HP.out _).mono ?_
  rintro e w3 ⟨rfl, h3⟩
  have H3 := Lib.hid (hS.call h3)
  clear h3
  go_wp2_with fail
  refine HK.out.to (OwnR w (x + 1) 28 11 [(x, 26, #[.int .i64 p.t, .int .i64 p.v, .int .i64 p.s])]) (fun _ h => h) (H3.out) ?_
  clear HK hS
  have hS : (OwnR w (x + 1) 28 11 [(x, 26, #[.int .i64 p.t, .int .i64 p.v, .int .i64 p.s])]) (w3) := H3.out
  try simp only [List.getElem_toArray, List.getElem_cons_succ, List.getElem_cons_zero, Act.put, List.setIfInBounds_toArray, List.set_cons_zero, List.set_cons_succ]
  refine reg_take (i := 9) (v := ?_) rfl (by kernel_rfl) (by kernel_rfl) (by kernel_rfl) (fun _ _ _ h => h) (Or.inl ⟨by kernel_rfl, ?_⟩) hS ?_
  rotate_left
  · (intro w' hSw; go_simp <;> with_reducible rfl)
  try simp only [List.getElem_toArray, List.getElem_cons_succ, List.getElem_cons_zero, Act.put, List.setIfInBounds_toArray, List.set_cons_zero, List.set_cons_succ]
  obtain ⟨c0, c1, c2, c3, c4, c5, c6, c7, c8, c9, c10, hO⟩ := hS.eleven
  have z0_0 := hO.cell 0 0 rfl rfl; have z0_1 := hO.cell 0 1 rfl rfl; have z0_2 := hO.cell 0 2 rfl rfl; have z0_3 := hO.cell 0 3 rfl rfl; have z0_4 := hO.cell 0 4 rfl rfl; have z0_5 := hO.cell 0 5 rfl rfl; have z0_6 := hO.cell 0 6 rfl rfl; have z0_7 := hO.cell 0 7 rfl rfl; have z0_8 := hO.cell 0 8 rfl rfl; have z0_9 := hO.cell 0 9 rfl rfl; have z0_10 := hO.cell 0 10 rfl rfl; have z1_0 := hO.cell 1 0 rfl rfl; have z1_1 := hO.cell 1 1 rfl rfl; have z1_2 := hO.cell 1 2 rfl rfl
  have zf0 := hO.free 0 rfl
  have HW := Lib.hid (hS.put [.int .i64 (ofA p).n, .int .i64 (hiOf (ofA p).s), .int .u64 (loOf (ofA p).s), .int .i64 (ofA p).lo, .int .i64 (ofA p).hi, .int .i64 (ofA p).f.t, .int .i64 (ofA p).f.v, .int .i64 (ofA p).f.s, .int .i64 (ofA p).l.t, .int .i64 (ofA p).l.v, .int .i64 (ofA p).l.s] rfl)
  clear hO
  refine reg_call (i := 10) rfl (by kernel_rfl) (fun K hK => ?_)
  have HK := Lib.hid hK
  clear hK
  go_simp
  go_wp2_with fail
  refine HK.out.go (Own w [(x + 1, 28, #[.int .i64 (ofA p).n, .int .i64 (hiOf (ofA p).s), .int .u64 (loOf (ofA p).s), .int .i64 (ofA p).lo, .int .i64 (ofA p).hi, .int .i64 (ofA p).f.t, .int .i64 (ofA p).f.v, .int .i64 (ofA p).f.s, .int .i64 (ofA p).l.t, .int .i64 (ofA p).l.v, .int .i64 (ofA p).l.s]), (x, 26, #[.int .i64 p.t, .int .i64 p.v, .int .i64 p.s])]) (fun _ h => OwnR.of h rfl) (HW.out) ?_
  clear HK hS
  intro w4 hS
  try simp only [List.getElem_toArray, List.getElem_cons_succ, List.getElem_cons_zero, Act.put, List.setIfInBounds_toArray, List.set_cons_zero, List.set_cons_succ]
  refine wpAnyH_done (by kernel_rfl) ?_ _
  try simp only [List.getElem_toArray, List.getElem_cons_succ, List.getElem_cons_zero]
  try simp only [List.getElem_toArray, List.getElem_cons_succ, List.getElem_cons_zero, Act.put, List.setIfInBounds_toArray, List.set_cons_zero, List.set_cons_succ]
  have z0_0 := hS.cell 0 0 rfl rfl; have z0_1 := hS.cell 0 1 rfl rfl; have z0_2 := hS.cell 0 2 rfl rfl; have z0_3 := hS.cell 0 3 rfl rfl; have z0_4 := hS.cell 0 4 rfl rfl; have z0_5 := hS.cell 0 5 rfl rfl; have z0_6 := hS.cell 0 6 rfl rfl; have z0_7 := hS.cell 0 7 rfl rfl; have z0_8 := hS.cell 0 8 rfl rfl; have z0_9 := hS.cell 0 9 rfl rfl; have z0_10 := hS.cell 0 10 rfl rfl; have z1_0 := hS.cell 1 0 rfl rfl; have z1_1 := hS.cell 1 1 rfl rfl; have z1_2 := hS.cell 1 2 rfl rfl
  have HS := Lib.hid hS
  clear hS
  go_wp2_with fail
  exact bodyPost_ret (v := .agg #[.int .i64 (ofA p).n, .int .i64 (hiOf (ofA p).s), .int .u64 (loOf (ofA p).s), .int .i64 (ofA p).lo, .int .i64 (ofA p).hi, .int .i64 (ofA p).f.t, .int .i64 (ofA p).f.v, .int .i64 (ofA p).f.s, .int .i64 (ofA p).l.t, .int .i64 (ofA p).l.v, .int .i64 (ofA p).l.s]) (by simp [results, Tryd.results51, go_sem, z0_0, z0_1, z0_2, z0_3, z0_4, z0_5, z0_6, z0_7, z0_8, z0_9, z0_10]) rfl ⟨rfl, HS.out.bel⟩
end Go.Proofs.YthhgnngpaagagaaDoor
