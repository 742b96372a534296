/-
  The contracts of aggr.Add and aggr.All. (Printed by mk.py.)
-/
import Derived.Test.YthhgnngpaagagaaDoorAgE
namespace Go.Proofs.YthhgnngpaagagaaDoor
open Go.RowKit
set_option linter.unusedVariables false
set_option linter.unusedSimpArgs false
theorem ofA_ok {p : Pt} (h : PtOk p) : AgOk (ofA p) := by
  obtain ⟨h1, h2, h3⟩ := h
  unfold AgOk ofA S128
  unfold I64 at *
  simp only
  omega
set_option maxRecDepth 100000 in
set_option maxHeartbeats 4000000 in
theorem aggAdd_any (a : Ag) (p : Pt) (ha : AgOk a) (hp : PtOk p) (w : World) : Calls Tryd.prog 34 #[.agg #[.int .i64 a.n, .int .i64 (hiOf a.s), .int .u64 (loOf a.s), .int .i64 a.lo, .int .i64 a.hi, .int .i64 a.f.t, .int .i64 a.f.v, .int .i64 a.f.s, .int .i64 a.l.t, .int .i64 a.l.v, .int .i64 a.l.s], .agg #[.int .i64 p.t, .int .i64 p.v, .int .i64 p.s]] w (MergePost a (ofA p) w) := by
  obtain ⟨x, hx⟩ : ∃ x, x = w.heap.size := ⟨_, rfl⟩
  have o0 := ((Own.own3 w hx 28 #[.int .i64 a.n, .int .i64 (hiOf a.s), .int .u64 (loOf a.s), .int .i64 a.lo, .int .i64 a.hi, .int .i64 a.f.t, .int .i64 a.f.v, .int .i64 a.f.s, .int .i64 a.l.t, .int .i64 a.l.v, .int .i64 a.l.s] 26 #[.int .i64 p.t, .int .i64 p.v, .int .i64 p.s] 28 #[.int .i64 0, .int .i64 0, .int .u64 0, .int .i64 0, .int .i64 0, .int .i64 0, .int .i64 0, .int .i64 0, .int .i64 0, .int .i64 0, .int .i64 0]).front 2 rfl).drew
  have HO := Lib.hid (And.intro hx (And.intro o0 (And.intro ha hp)))
  clear hx o0 ha hp
  go_enter Tryd.func34, Tryd.ntmps34
  go_wp2_with fail
  rw [← HO.out.1]
  have hS1 : OwnR w (x + 1 + 1) 28 11 [(x, 28, #[.int .i64 a.n, .int .i64 (hiOf a.s), .int .u64 (loOf a.s), .int .i64 a.lo, .int .i64 a.hi, .int .i64 a.f.t, .int .i64 a.f.v, .int .i64 a.f.s, .int .i64 a.l.t, .int .i64 a.l.v, .int .i64 a.l.s]), (x + 1, 26, #[.int .i64 p.t, .int .i64 p.v, .int .i64 p.s])] _ := OwnR.of HO.out.2.1 rfl
  generalize World.alloc _ _ = w2 at hS1 ⊢
  have hS : (OwnR w (x + 1 + 1) 28 11 [(x, 28, #[.int .i64 a.n, .int .i64 (hiOf a.s), .int .u64 (loOf a.s), .int .i64 a.lo, .int .i64 a.hi, .int .i64 a.f.t, .int .i64 a.f.v, .int .i64 a.f.s, .int .i64 a.l.t, .int .i64 a.l.v, .int .i64 a.l.s]), (x + 1, 26, #[.int .i64 p.t, .int .i64 p.v, .int .i64 p.s])]) (w2.drew) := hS1
  refine reg_start (OwnR w (x + 1 + 1) 28 11 [(x, 28, #[.int .i64 a.n, .int .i64 (hiOf a.s), .int .u64 (loOf a.s), .int .i64 a.lo, .int .i64 a.hi, .int .i64 a.f.t, .int .i64 a.f.v, .int .i64 a.f.s, .int .i64 a.l.t, .int .i64 a.l.v, .int .i64 a.l.s]), (x + 1, 26, #[.int .i64 p.t, .int .i64 p.v, .int .i64 p.s])]) (by kernel_rfl) hS ?_
  refine reg_take (i := 0) (v := ?_) rfl (by kernel_rfl) (by kernel_rfl) (by kernel_rfl) (fun _ _ _ h => h) (Or.inl ⟨by kernel_rfl, ?_⟩) hS ?_
  rotate_left
  · (intro w' hSw; have hSw := hSw.rest; have z0_0 := hSw.cell 0 0 rfl rfl; have z0_1 := hSw.cell 0 1 rfl rfl; have z0_2 := hSw.cell 0 2 rfl rfl; have z0_3 := hSw.cell 0 3 rfl rfl; have z0_4 := hSw.cell 0 4 rfl rfl; have z0_5 := hSw.cell 0 5 rfl rfl; have z0_6 := hSw.cell 0 6 rfl rfl; have z0_7 := hSw.cell 0 7 rfl rfl; have z0_8 := hSw.cell 0 8 rfl rfl; have z0_9 := hSw.cell 0 9 rfl rfl; have z0_10 := hSw.cell 0 10 rfl rfl; have z1_0 := hSw.cell 1 0 rfl rfl; have z1_1 := hSw.cell 1 1 rfl rfl; have z1_2 := hSw.cell 1 2 rfl rfl; go_simp <;> with_reducible rfl)
  try simp only [List.getElem_toArray, List.getElem_cons_succ, List.getElem_cons_zero, Act.put, List.setIfInBounds_toArray, List.set_cons_zero, List.set_cons_succ]
  refine reg_take (i := 1) (v := ?_) rfl (by kernel_rfl) (by kernel_rfl) (by kernel_rfl) (fun _ _ _ h => h) (Or.inl ⟨by kernel_rfl, ?_⟩) hS ?_
  rotate_left
  · (intro w' hSw; have hSw := hSw.rest; have z0_0 := hSw.cell 0 0 rfl rfl; have z0_1 := hSw.cell 0 1 rfl rfl; have z0_2 := hSw.cell 0 2 rfl rfl; have z0_3 := hSw.cell 0 3 rfl rfl; have z0_4 := hSw.cell 0 4 rfl rfl; have z0_5 := hSw.cell 0 5 rfl rfl; have z0_6 := hSw.cell 0 6 rfl rfl; have z0_7 := hSw.cell 0 7 rfl rfl; have z0_8 := hSw.cell 0 8 rfl rfl; have z0_9 := hSw.cell 0 9 rfl rfl; have z0_10 := hSw.cell 0 10 rfl rfl; have z1_0 := hSw.cell 1 0 rfl rfl; have z1_1 := hSw.cell 1 1 rfl rfl; have z1_2 := hSw.cell 1 2 rfl rfl; go_simp <;> with_reducible rfl)
  try simp only [List.getElem_toArray, List.getElem_cons_succ, List.getElem_cons_zero, Act.put, List.setIfInBounds_toArray, List.set_cons_zero, List.set_cons_succ]
  refine reg_call (i := 2) rfl (by kernel_rfl) (fun K hK => ?_)
  have HK := Lib.hid hK
  clear hK
  go_simp
  refine (aggOf_any p HO.out.2.2.2.v _).mono ?_
  rintro e w3 ⟨rfl, h3⟩
  have H3 := Lib.hid (hS.call h3)
  clear h3
  go_wp2_with fail
  refine HK.out.to (OwnR w (x + 1 + 1) 28 11 [(x, 28, #[.int .i64 a.n, .int .i64 (hiOf a.s), .int .u64 (loOf a.s), .int .i64 a.lo, .int .i64 a.hi, .int .i64 a.f.t, .int .i64 a.f.v, .int .i64 a.f.s, .int .i64 a.l.t, .int .i64 a.l.v, .int .i64 a.l.s]), (x + 1, 26, #[.int .i64 p.t, .int .i64 p.v, .int .i64 p.s])]) (fun _ h => h) (H3.out) ?_
  clear HK hS
  have hS : (OwnR w (x + 1 + 1) 28 11 [(x, 28, #[.int .i64 a.n, .int .i64 (hiOf a.s), .int .u64 (loOf a.s), .int .i64 a.lo, .int .i64 a.hi, .int .i64 a.f.t, .int .i64 a.f.v, .int .i64 a.f.s, .int .i64 a.l.t, .int .i64 a.l.v, .int .i64 a.l.s]), (x + 1, 26, #[.int .i64 p.t, .int .i64 p.v, .int .i64 p.s])]) (w3) := H3.out
  try simp only [List.getElem_toArray, List.getElem_cons_succ, List.getElem_cons_zero, Act.put, List.setIfInBounds_toArray, List.set_cons_zero, List.set_cons_succ]
  refine reg_call (i := 3) rfl (by kernel_rfl) (fun K hK => ?_)
  have HK := Lib.hid hK
  clear hK
  go_simp
  refine (merge_any a (ofA p) HO.out.2.2.1 (ofA_ok HO.out.2.2.2) _).mono ?_
  rintro e w4 ⟨r, er, hr, rfl, h4⟩
  have H4 := Lib.hid (hS.call h4)
  have HR := Lib.hid hr
  clear h4 hr
  go_wp2_with fail
  refine HK.out.to (OwnR w (x + 1 + 1) 28 11 [(x, 28, #[.int .i64 a.n, .int .i64 (hiOf a.s), .int .u64 (loOf a.s), .int .i64 a.lo, .int .i64 a.hi, .int .i64 a.f.t, .int .i64 a.f.v, .int .i64 a.f.s, .int .i64 a.l.t, .int .i64 a.l.v, .int .i64 a.l.s]), (x + 1, 26, #[.int .i64 p.t, .int .i64 p.v, .int .i64 p.s])]) (fun _ h => h) (H4.out) ?_
  clear HK hS
  have hS : (OwnR w (x + 1 + 1) 28 11 [(x, 28, #[.int .i64 a.n, .int .i64 (hiOf a.s), .int .u64 (loOf a.s), .int .i64 a.lo, .int .i64 a.hi, .int .i64 a.f.t, .int .i64 a.f.v, .int .i64 a.f.s, .int .i64 a.l.t, .int .i64 a.l.v, .int .i64 a.l.s]), (x + 1, 26, #[.int .i64 p.t, .int .i64 p.v, .int .i64 p.s])]) (w4) := H4.out
  try simp only [List.getElem_toArray, List.getElem_cons_succ, List.getElem_cons_zero, Act.put, List.setIfInBounds_toArray, List.set_cons_zero, List.set_cons_succ]
  refine reg_take (i := 4) (v := ?_) rfl (by kernel_rfl) (by kernel_rfl) (by kernel_rfl) (fun _ _ _ h => h) (Or.inl ⟨by kernel_rfl, ?_⟩) hS ?_
  rotate_left
  · (intro w' hSw; go_simp <;> with_reducible rfl)
  try simp only [List.getElem_toArray, List.getElem_cons_succ, List.getElem_cons_zero, Act.put, List.setIfInBounds_toArray, List.set_cons_zero, List.set_cons_succ]
  refine reg_take (i := 5) (v := ?_) rfl (by kernel_rfl) (by kernel_rfl) (by kernel_rfl) (fun _ _ _ h => h) (Or.inl ⟨by kernel_rfl, ?_⟩) hS ?_
  rotate_left
  · (intro w' hSw; go_simp <;> with_reducible rfl)
  try simp only [List.getElem_toArray, List.getElem_cons_succ, List.getElem_cons_zero, Act.put, List.setIfInBounds_toArray, List.set_cons_zero, List.set_cons_succ]
  obtain ⟨c0, c1, c2, c3, c4, c5, c6, c7, c8, c9, c10, hO⟩ := hS.eleven
  have z0_0 := hO.cell 0 0 rfl rfl; have z0_1 := hO.cell 0 1 rfl rfl; have z0_2 := hO.cell 0 2 rfl rfl; have z0_3 := hO.cell 0 3 rfl rfl; have z0_4 := hO.cell 0 4 rfl rfl; have z0_5 := hO.cell 0 5 rfl rfl; have z0_6 := hO.cell 0 6 rfl rfl; have z0_7 := hO.cell 0 7 rfl rfl; have z0_8 := hO.cell 0 8 rfl rfl; have z0_9 := hO.cell 0 9 rfl rfl; have z0_10 := hO.cell 0 10 rfl rfl
  have zf0 := hO.free 0 rfl
  have HW := Lib.hid (hS.put [.int .i64 r.n, .int .i64 (hiOf r.s), .int .u64 (loOf r.s), .int .i64 r.lo, .int .i64 r.hi, .int .i64 r.f.t, .int .i64 r.f.v, .int .i64 r.f.s, .int .i64 r.l.t, .int .i64 r.l.v, .int .i64 r.l.s] rfl)
  clear hO
  refine reg_call (i := 6) rfl (by kernel_rfl) (fun K hK => ?_)
  have HK := Lib.hid hK
  clear hK
  go_simp
  go_wp2_with fail
  refine HK.out.go (Own w [(x + 1 + 1, 28, #[.int .i64 r.n, .int .i64 (hiOf r.s), .int .u64 (loOf r.s), .int .i64 r.lo, .int .i64 r.hi, .int .i64 r.f.t, .int .i64 r.f.v, .int .i64 r.f.s, .int .i64 r.l.t, .int .i64 r.l.v, .int .i64 r.l.s]), (x, 28, #[.int .i64 a.n, .int .i64 (hiOf a.s), .int .u64 (loOf a.s), .int .i64 a.lo, .int .i64 a.hi, .int .i64 a.f.t, .int .i64 a.f.v, .int .i64 a.f.s, .int .i64 a.l.t, .int .i64 a.l.v, .int .i64 a.l.s]), (x + 1, 26, #[.int .i64 p.t, .int .i64 p.v, .int .i64 p.s])]) (fun _ h => OwnR.of h rfl) (HW.out) ?_
  clear HK hS
  intro w5 hS
  try simp only [List.getElem_toArray, List.getElem_cons_succ, List.getElem_cons_zero, Act.put, List.setIfInBounds_toArray, List.set_cons_zero, List.set_cons_succ]
  refine reg_take (i := 7) (v := ?_) rfl (by kernel_rfl) (by kernel_rfl) (by kernel_rfl) (fun _ _ _ h => h) (Or.inl ⟨by kernel_rfl, ?_⟩) hS ?_
  rotate_left
  · (intro w' hSw; go_simp <;> with_reducible rfl)
  try simp only [List.getElem_toArray, List.getElem_cons_succ, List.getElem_cons_zero, Act.put, List.setIfInBounds_toArray, List.set_cons_zero, List.set_cons_succ]
  refine wpAnyH_done (by kernel_rfl) ?_ _
  try simp only [List.getElem_toArray, List.getElem_cons_succ, List.getElem_cons_zero]
  try simp only [List.getElem_toArray, List.getElem_cons_succ, List.getElem_cons_zero, Act.put, List.setIfInBounds_toArray, List.set_cons_zero, List.set_cons_succ]
  have z0_0 := hS.cell 0 0 rfl rfl; have z0_1 := hS.cell 0 1 rfl rfl; have z0_2 := hS.cell 0 2 rfl rfl; have z0_3 := hS.cell 0 3 rfl rfl; have z0_4 := hS.cell 0 4 rfl rfl; have z0_5 := hS.cell 0 5 rfl rfl; have z0_6 := hS.cell 0 6 rfl rfl; have z0_7 := hS.cell 0 7 rfl rfl; have z0_8 := hS.cell 0 8 rfl rfl; have z0_9 := hS.cell 0 9 rfl rfl; have z0_10 := hS.cell 0 10 rfl rfl
  have HS := Lib.hid hS
  clear hS
  go_wp2_with fail
  exact bodyPost_ret (v := .tuple #[.agg #[.int .i64 r.n, .int .i64 (hiOf r.s), .int .u64 (loOf r.s), .int .i64 r.lo, .int .i64 r.hi, .int .i64 r.f.t, .int .i64 r.f.v, .int .i64 r.f.s, .int .i64 r.l.t, .int .i64 r.l.v, .int .i64 r.l.s], .int .i64 er]) (by simp [results, Tryd.results34, go_sem, z0_0, z0_1, z0_2, z0_3, z0_4, z0_5, z0_6, z0_7, z0_8, z0_9, z0_10]) rfl ⟨r, er, HR.out, rfl, HS.out.bel⟩
end Go.Proofs.YthhgnngpaagagaaDoor
