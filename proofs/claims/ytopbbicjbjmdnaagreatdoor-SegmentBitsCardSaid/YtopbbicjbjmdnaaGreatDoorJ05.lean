/-
  Texts of this proof, joined: XorWin, BitsRw, BitsRy, BitsFit, XorEn, XorE, ColC.
-/
import Derived.Test.YtopbbicjbjmdnaaGreatDoorJ04
import Derived.Test.YtopbbicjbjmdnaaGreatDoorJ01
import Derived.WalkMore
import Derived.Test.YtopbbicjbjmdnaaGreatDoorJ02
import Derived.Test.YtopbbicjbjmdnaaGreatDoorJ03
namespace Go.Proofs.YtopbbicjbjmdnaaGreatDoor.X
open Go.RowKit
set_option linter.unusedVariables false
set_option linter.unusedSimpArgs false
theorem xbox_below {w w1 : World} {t : TypeId} {cs : Array Value} (hb : Below (w.alloc (.cells cs t)).heap.size (w.alloc (.cells cs t)) w1) : Blk w1 w.heap.size t cs ∧ Below w.heap.size w w1 :=
  ⟨(Blk.fresh w t cs).below hb (by simp), ((Below.refl w.heap.size w).alloc (Nat.le_refl _) _).trans (hb.mono (by simp))⟩
theorem _root_.Go.Proofs.YtopbbicjbjmdnaaGreatDoor.Blk.set2 {w : World} {g : Nat} {t : TypeId} {a b : Value} (h : Blk w g t #[a, b]) (x y : Value) : Blk ((w.setCell ⟨g, 0, none⟩ x).setCell ⟨g, 1, none⟩ y) g t #[x, y] := by
  simpa using (h.set 0 x).set 1 y
theorem below_set2 {B : Nat} {w w' : World} {g : Nat} (h : Below B w w') (hg : B ≤ g) (x y : Value) : Below B w ((w'.setCell ⟨g, 0, none⟩ x).setCell ⟨g, 1, none⟩ y) :=
  (h.setCell (by simpa using hg) _).setCell (by simpa using hg) _
set_option maxHeartbeats 400000 in
theorem none_any (w : World) : Calls Tryz.prog 56 #[] w fun e w' => e = .returned (.agg #[.int .i64 (-1), .int .i64 (-1)]) ∧ Below w.heap.size w w' := by
  go_enter Tryz.func56, Tryz.ntmps56
  go_wp2
  exact bodyPost_ret (v := .agg #[.int .i64 (-1), .int .i64 (-1)]) (by simp [results, Tryz.results56, go_sem]) rfl ⟨rfl, (Below.refl _ _).alloc (Nat.le_refl _) _⟩
set_option maxHeartbeats 400000 in
theorem inside_any (l t : Nat) (h : l + t ≤ 64) (w : World) : Calls Tryz.prog 59 #[.agg #[.int .i64 (l : Nat), .int .i64 (t : Nat)]] w fun e w' => e = .returned (.int .i64 ((64 - l - t : Nat) : Int)) ∧ Below w.heap.size w w' := by
  have bel := ((Below.refl w.heap.size w).alloc (Nat.le_refl _) (.cells #[.int .i64 (l : Nat), .int .i64 (t : Nat)] 118))
  have HB := Lib.hid bel
  clear bel
  go_enter Tryz.func59, Tryz.ntmps59
  go_wp2_with fail
  go_ret
  exact ⟨xret_int (by omega), HB.out⟩
set_option maxRecDepth 100000 in
set_option maxHeartbeats 800000 in
theorem of_any (u : Nat) (hu : u < 18446744073709551616) (w : World) : Calls Tryz.prog 57 #[.int .u64 (u : Nat)] w fun e w' => e = .returned (.agg #[.int .i64 (lead u : Nat), .int .i64 (trail u : Nat)]) ∧ Below w.heap.size w w' := by
  have HU := Lib.hid hu
  clear hu
  obtain ⟨x, hx⟩ : ∃ x, x = w.heap.size := ⟨_, rfl⟩
  have HX := Lib.hid hx
  go_enter Tryz.func57, Tryz.ntmps57
  go_wp2_with fail
  refine (wlead_any u HU.out _).mono ?_
  rintro e w1 ⟨rfl, hb1⟩
  obtain ⟨k1, g1⟩ := xbox_below hb1
  clear hb1
  have H1 := Lib.hid (And.intro k1 g1)
  clear k1 g1
  go_wp2_with fail
  refine (wtrail_any u HU.out _).mono ?_
  rintro e w2 ⟨rfl, hb2⟩
  have b0 := H1.out.1.below hb2 H1.out.1.lt
  have bel := H1.out.2.trans (hb2.mono H1.out.2.size)
  rw [← hx] at b0
  rw [← hx]
  have f0 := b0.frozen
  have p0 := b0.cell 0
  have p1 := b0.cell 1
  simp at p0 p1
  have HB := Lib.hid (And.intro b0 (And.intro bel hx))
  clear hb2 b0 bel hx
  go_wp2_with fail
  have b2 := HB.out.1.set2 (.int .i64 (lead u : Nat)) (.int .i64 (trail u : Nat))
  have bel2 := below_set2 (g := x) HB.out.2.1 (by have := HB.out.2.2; omega) (.int .i64 (lead u : Nat)) (.int .i64 (trail u : Nat))
  generalize ((w2.setCell ⟨x, 0, none⟩ (.int .i64 (lead u : Nat))).setCell ⟨x, 1, none⟩ (.int .i64 (trail u : Nat))) = w3 at b2 bel2 ⊢
  have r0 := b2.cell 0
  have r1 := b2.cell 1
  simp at r0 r1
  exact bodyPost_ret (v := .agg #[.int .i64 (lead u : Nat), .int .i64 (trail u : Nat)]) (by simp [results, Tryz.results57, go_sem, r0, r1]) rfl ⟨rfl, bel2⟩
/-- What has reads: both windows. -/
def WR (x : Nat) (l t y z : Int) (w : World) : Prop :=
  w.cell? ⟨x, 0, none⟩ = some (.int .i64 l) ∧ w.cell? ⟨x, 1, none⟩ = some (.int .i64 t) ∧ w.cell? ⟨x + 1, 0, none⟩ = some (.int .i64 y) ∧ w.cell? ⟨x + 1, 1, none⟩ = some (.int .i64 z)
theorem wr_of {x : Nat} {l t y z : Int} {w : World} {T : TypeId} (h : Blk w x T #[.int .i64 l, .int .i64 t]) (h' : Blk w (x + 1) T #[.int .i64 y, .int .i64 z]) : WR x l t y z w := by
  have p0 := h.cell 0
  have p1 := h.cell 1
  have q0 := h'.cell 0
  have q1 := h'.cell 1
  simp at p0 p1 q0 q1
  exact ⟨p0, p1, q0, q1⟩
set_option maxRecDepth 100000 in
set_option maxHeartbeats 800000 in
theorem has_none (y z : Int) (w : World) : Calls Tryz.prog 58 #[.agg #[.int .i64 (-1), .int .i64 (-1)], .agg #[.int .i64 y, .int .i64 z]] w fun e w' => e = .returned (.bool false) ∧ Below w.heap.size w w' := by
  obtain ⟨x, hx⟩ : ∃ x, x = w.heap.size := ⟨_, rfl⟩
  obtain ⟨W, hW⟩ : ∃ W, W = (w.alloc (.cells #[.int .i64 (-1), .int .i64 (-1)] 118)).alloc (.cells #[.int .i64 y, .int .i64 z] 118) := ⟨_, rfl⟩
  have b0 : Blk W x 118 #[.int .i64 (-1), .int .i64 (-1)] := by rw [hx, hW]; exact (Blk.fresh w _ _).alloc _
  have b1 : Blk W (x + 1) 118 #[.int .i64 y, .int .i64 z] := by
    rw [hx, hW]
    have h := Blk.fresh (w.alloc (.cells #[.int .i64 (-1), .int .i64 (-1)] 118)) 118 #[.int .i64 y, .int .i64 z]
    simpa using h
  have bel : Below x w W := by rw [hx, hW]; exact ((Below.refl w.heap.size w).alloc (Nat.le_refl _) _).alloc (by simp) _
  have HB := Lib.hid (And.intro b0 (And.intro b1 (And.intro bel hx)))
  clear b0 b1 bel
  go_enter Tryz.func58, Tryz.ntmps58
  go_wp2_with fail
  rw [← hW, ← hx]
  clear hW hx
  have hS : (WR x (-1) (-1) y z) (W.drew) := wr_of HB.out.1.drew HB.out.2.1.drew
  refine reg_start (WR x (-1) (-1) y z) (by kernel_rfl) hS ?_
  refine reg_take (i := 0) (v := ?_) rfl (by kernel_rfl) (by kernel_rfl) (by kernel_rfl) (fun _ _ _ h => h) (Or.inl ⟨by kernel_rfl, ?_⟩) hS ?_
  rotate_left
  · (intro w' hSw; obtain ⟨p0, p1, q0, q1⟩ := hSw; go_simp <;> with_reducible rfl)
  try simp only [List.getElem_toArray, List.getElem_cons_succ, List.getElem_cons_zero, Act.put, List.setIfInBounds_toArray, List.set_cons_zero, List.set_cons_succ]
  refine reg_call (i := 1) rfl (by kernel_rfl) (fun K hK => ?_)
  have HK := Lib.hid hK
  clear hK
  go_simp
  refine (none_any W.drew).mono ?_
  rintro e w1 ⟨rfl, hb1⟩
  have r1 : WR x (-1) (-1) y z w1 := wr_of (HB.out.1.drew.below hb1 HB.out.1.drew.lt) (HB.out.2.1.drew.below hb1 HB.out.2.1.drew.lt)
  have bel1 : Below w.heap.size w w1 := by
    have h := HB.out.2.2.1.drew
    rw [HB.out.2.2.2] at h
    exact h.trans (hb1.mono h.size)
  have H1 := Lib.hid (And.intro r1 bel1)
  clear hb1 r1 bel1
  go_wp2_with fail
  refine HK.out.to (WR x (-1) (-1) y z) (fun _ h => h) (H1.out.1) ?_
  clear HK hS
  have hS : (WR x (-1) (-1) y z) (w1) := H1.out.1
  try simp only [List.getElem_toArray, List.getElem_cons_succ, List.getElem_cons_zero, Act.put, List.setIfInBounds_toArray, List.set_cons_zero, List.set_cons_succ]
  refine reg_take (i := 2) (v := ?_) rfl (by kernel_rfl) (by kernel_rfl) (by kernel_rfl) (fun _ _ _ h => h) (Or.inl ⟨by kernel_rfl, ?_⟩) hS ?_
  rotate_left
  · (intro w' hSw; go_simp <;> with_reducible rfl)
  try simp only [List.getElem_toArray, List.getElem_cons_succ, List.getElem_cons_zero, Act.put, List.setIfInBounds_toArray, List.set_cons_zero, List.set_cons_succ]
  refine reg_take (i := 3) (v := ?_) rfl (by kernel_rfl) (by kernel_rfl) (by kernel_rfl) (fun _ _ _ h => h) (Or.inl ⟨by kernel_rfl, ?_⟩) hS ?_
  rotate_left
  · (intro w' hSw; go_simp <;> with_reducible rfl)
  try simp only [List.getElem_toArray, List.getElem_cons_succ, List.getElem_cons_zero, Act.put, List.setIfInBounds_toArray, List.set_cons_zero, List.set_cons_succ]
  refine reg_take (i := 4) (v := undef) rfl (by kernel_rfl) (by kernel_rfl) (by kernel_rfl) (fun _ _ _ h => h) (Or.inr ⟨by kernel_rfl, rfl⟩) hS ?_
  try simp only [List.getElem_toArray, List.getElem_cons_succ, List.getElem_cons_zero, Act.put, List.setIfInBounds_toArray, List.set_cons_zero, List.set_cons_succ]
  refine reg_take (i := 5) (v := undef) rfl (by kernel_rfl) (by kernel_rfl) (by kernel_rfl) (fun _ _ _ h => h) (Or.inr ⟨by kernel_rfl, rfl⟩) hS ?_
  try simp only [List.getElem_toArray, List.getElem_cons_succ, List.getElem_cons_zero, Act.put, List.setIfInBounds_toArray, List.set_cons_zero, List.set_cons_succ]
  refine reg_take (i := 6) (v := undef) rfl (by kernel_rfl) (by kernel_rfl) (by kernel_rfl) (fun _ _ _ h => h) (Or.inr ⟨by kernel_rfl, rfl⟩) hS ?_
  try simp only [List.getElem_toArray, List.getElem_cons_succ, List.getElem_cons_zero, Act.put, List.setIfInBounds_toArray, List.set_cons_zero, List.set_cons_succ]
  refine reg_take (i := 7) (v := undef) rfl (by kernel_rfl) (by kernel_rfl) (by kernel_rfl) (fun _ _ _ h => h) (Or.inr ⟨by kernel_rfl, rfl⟩) hS ?_
  try simp only [List.getElem_toArray, List.getElem_cons_succ, List.getElem_cons_zero, Act.put, List.setIfInBounds_toArray, List.set_cons_zero, List.set_cons_succ]
  refine reg_take (i := 8) (v := undef) rfl (by kernel_rfl) (by kernel_rfl) (by kernel_rfl) (fun _ _ _ h => h) (Or.inr ⟨by kernel_rfl, rfl⟩) hS ?_
  try simp only [List.getElem_toArray, List.getElem_cons_succ, List.getElem_cons_zero, Act.put, List.setIfInBounds_toArray, List.set_cons_zero, List.set_cons_succ]
  refine reg_take (i := 9) (v := ?_) rfl (by kernel_rfl) (by kernel_rfl) (by kernel_rfl) (fun _ _ _ h => h) (Or.inl ⟨by kernel_rfl, ?_⟩) hS ?_
  rotate_left
  · (intro w' hSw; go_simp <;> with_reducible rfl)
  try simp only [List.getElem_toArray, List.getElem_cons_succ, List.getElem_cons_zero, Act.put, List.setIfInBounds_toArray, List.set_cons_zero, List.set_cons_succ]
  refine reg_take (i := 10) (v := ?_) rfl (by kernel_rfl) (by kernel_rfl) (by kernel_rfl) (fun _ _ _ h => h) (Or.inl ⟨by kernel_rfl, ?_⟩) hS ?_
  rotate_left
  · (intro w' hSw; go_simp <;> with_reducible rfl)
  try simp only [List.getElem_toArray, List.getElem_cons_succ, List.getElem_cons_zero, Act.put, List.setIfInBounds_toArray, List.set_cons_zero, List.set_cons_succ]
  refine reg_take (i := 11) (v := undef) rfl (by kernel_rfl) (by kernel_rfl) (by kernel_rfl) (fun _ _ _ h => h) (Or.inr ⟨by kernel_rfl, rfl⟩) hS ?_
  try simp only [List.getElem_toArray, List.getElem_cons_succ, List.getElem_cons_zero, Act.put, List.setIfInBounds_toArray, List.set_cons_zero, List.set_cons_succ]
  refine reg_take (i := 12) (v := undef) rfl (by kernel_rfl) (by kernel_rfl) (by kernel_rfl) (fun _ _ _ h => h) (Or.inr ⟨by kernel_rfl, rfl⟩) hS ?_
  try simp only [List.getElem_toArray, List.getElem_cons_succ, List.getElem_cons_zero, Act.put, List.setIfInBounds_toArray, List.set_cons_zero, List.set_cons_succ]
  refine reg_take (i := 13) (v := undef) rfl (by kernel_rfl) (by kernel_rfl) (by kernel_rfl) (fun _ _ _ h => h) (Or.inr ⟨by kernel_rfl, rfl⟩) hS ?_
  try simp only [List.getElem_toArray, List.getElem_cons_succ, List.getElem_cons_zero, Act.put, List.setIfInBounds_toArray, List.set_cons_zero, List.set_cons_succ]
  refine reg_take (i := 14) (v := undef) rfl (by kernel_rfl) (by kernel_rfl) (by kernel_rfl) (fun _ _ _ h => h) (Or.inr ⟨by kernel_rfl, rfl⟩) hS ?_
  try simp only [List.getElem_toArray, List.getElem_cons_succ, List.getElem_cons_zero, Act.put, List.setIfInBounds_toArray, List.set_cons_zero, List.set_cons_succ]
  refine reg_take (i := 15) (v := undef) rfl (by kernel_rfl) (by kernel_rfl) (by kernel_rfl) (fun _ _ _ h => h) (Or.inr ⟨by kernel_rfl, rfl⟩) hS ?_
  try simp only [List.getElem_toArray, List.getElem_cons_succ, List.getElem_cons_zero, Act.put, List.setIfInBounds_toArray, List.set_cons_zero, List.set_cons_succ]
  refine reg_take (i := 16) (v := ?_) rfl (by kernel_rfl) (by kernel_rfl) (by kernel_rfl) (fun _ _ _ h => h) (Or.inl ⟨by kernel_rfl, ?_⟩) hS ?_
  rotate_left
  · (intro w' hSw; go_simp <;> with_reducible rfl)
  try simp only [List.getElem_toArray, List.getElem_cons_succ, List.getElem_cons_zero, Act.put, List.setIfInBounds_toArray, List.set_cons_zero, List.set_cons_succ]
  refine reg_take (i := 17) (v := ?_) rfl (by kernel_rfl) (by kernel_rfl) (by kernel_rfl) (fun _ _ _ h => h) (Or.inl ⟨by kernel_rfl, ?_⟩) hS ?_
  rotate_left
  · (intro w' hSw; go_simp <;> with_reducible rfl)
  try simp only [List.getElem_toArray, List.getElem_cons_succ, List.getElem_cons_zero, Act.put, List.setIfInBounds_toArray, List.set_cons_zero, List.set_cons_succ]
  refine wpAnyH_done (by kernel_rfl) ?_ _
  try simp only [List.getElem_toArray, List.getElem_cons_succ, List.getElem_cons_zero]
  try simp only [List.getElem_toArray, List.getElem_cons_succ, List.getElem_cons_zero, Act.put, List.setIfInBounds_toArray, List.set_cons_zero, List.set_cons_succ]
  go_wp2_with fail
  go_ret
  exact ⟨rfl, H1.out.2⟩
set_option maxRecDepth 100000 in
set_option maxHeartbeats 800000 in
theorem has_win (l t : Nat) (y z : Int) (w : World) : Calls Tryz.prog 58 #[.agg #[.int .i64 (l : Nat), .int .i64 (t : Nat)], .agg #[.int .i64 y, .int .i64 z]] w fun e w' => e = .returned (.bool (decide ((l : Int) ≤ y) && decide ((t : Int) ≤ z))) ∧ Below w.heap.size w w' := by
  have hl : ¬ ((l : Int) = -1) := by omega
  obtain ⟨x, hx⟩ : ∃ x, x = w.heap.size := ⟨_, rfl⟩
  obtain ⟨W, hW⟩ : ∃ W, W = (w.alloc (.cells #[.int .i64 (l : Nat), .int .i64 (t : Nat)] 118)).alloc (.cells #[.int .i64 y, .int .i64 z] 118) := ⟨_, rfl⟩
  have b0 : Blk W x 118 #[.int .i64 (l : Nat), .int .i64 (t : Nat)] := by rw [hx, hW]; exact (Blk.fresh w _ _).alloc _
  have b1 : Blk W (x + 1) 118 #[.int .i64 y, .int .i64 z] := by
    rw [hx, hW]
    have h := Blk.fresh (w.alloc (.cells #[.int .i64 (l : Nat), .int .i64 (t : Nat)] 118)) 118 #[.int .i64 y, .int .i64 z]
    simpa using h
  have bel : Below x w W := by rw [hx, hW]; exact ((Below.refl w.heap.size w).alloc (Nat.le_refl _) _).alloc (by simp) _
  have HB := Lib.hid (And.intro b0 (And.intro b1 (And.intro bel hx)))
  clear b0 b1 bel
  go_enter Tryz.func58, Tryz.ntmps58
  go_wp2_with fail
  rw [← hW, ← hx]
  clear hW hx
  have hS : (WR x (l : Nat) (t : Nat) y z) (W.drew) := wr_of HB.out.1.drew HB.out.2.1.drew
  refine reg_start (WR x (l : Nat) (t : Nat) y z) (by kernel_rfl) hS ?_
  refine reg_take (i := 0) (v := ?_) rfl (by kernel_rfl) (by kernel_rfl) (by kernel_rfl) (fun _ _ _ h => h) (Or.inl ⟨by kernel_rfl, ?_⟩) hS ?_
  rotate_left
  · (intro w' hSw; obtain ⟨p0, p1, q0, q1⟩ := hSw; go_simp <;> with_reducible rfl)
  try simp only [List.getElem_toArray, List.getElem_cons_succ, List.getElem_cons_zero, Act.put, List.setIfInBounds_toArray, List.set_cons_zero, List.set_cons_succ]
  refine reg_call (i := 1) rfl (by kernel_rfl) (fun K hK => ?_)
  have HK := Lib.hid hK
  clear hK
  go_simp
  refine (none_any W.drew).mono ?_
  rintro e w1 ⟨rfl, hb1⟩
  have r1 : WR x (l : Nat) (t : Nat) y z w1 := wr_of (HB.out.1.drew.below hb1 HB.out.1.drew.lt) (HB.out.2.1.drew.below hb1 HB.out.2.1.drew.lt)
  have bel1 : Below w.heap.size w w1 := by
    have h := HB.out.2.2.1.drew
    rw [HB.out.2.2.2] at h
    exact h.trans (hb1.mono h.size)
  have H1 := Lib.hid (And.intro r1 bel1)
  clear hb1 r1 bel1
  go_wp2_with fail
  refine HK.out.to (WR x (l : Nat) (t : Nat) y z) (fun _ h => h) (H1.out.1) ?_
  clear HK hS
  have hS : (WR x (l : Nat) (t : Nat) y z) (w1) := H1.out.1
  try simp only [List.getElem_toArray, List.getElem_cons_succ, List.getElem_cons_zero, Act.put, List.setIfInBounds_toArray, List.set_cons_zero, List.set_cons_succ]
  refine reg_take (i := 2) (v := ?_) rfl (by kernel_rfl) (by kernel_rfl) (by kernel_rfl) (fun _ _ _ h => h) (Or.inl ⟨by kernel_rfl, ?_⟩) hS ?_
  rotate_left
  · (intro w' hSw; go_simp <;> with_reducible rfl)
  try simp only [List.getElem_toArray, List.getElem_cons_succ, List.getElem_cons_zero, Act.put, List.setIfInBounds_toArray, List.set_cons_zero, List.set_cons_succ]
  refine reg_take (i := 3) (v := ?_) rfl (by kernel_rfl) (by kernel_rfl) (by kernel_rfl) (fun _ _ _ h => h) (Or.inl ⟨by kernel_rfl, ?_⟩) hS ?_
  rotate_left
  · (intro w' hSw; go_simp <;> with_reducible rfl)
  try simp only [List.getElem_toArray, List.getElem_cons_succ, List.getElem_cons_zero, Act.put, List.setIfInBounds_toArray, List.set_cons_zero, List.set_cons_succ]
  by_cases h1 : (l : Int) ≤ y
  · have d1 : decide ((l : Int) ≤ y) = true := by simp [h1]
    clear h1
    refine reg_take (i := 4) (v := ?_) rfl (by kernel_rfl) (by kernel_rfl) (by kernel_rfl) (fun _ _ _ h => h) (Or.inl ⟨by kernel_rfl, ?_⟩) hS ?_
    rotate_left
    · (intro w' hSw; obtain ⟨p0, p1, q0, q1⟩ := hSw; go_simp <;> with_reducible rfl)
    try simp only [List.getElem_toArray, List.getElem_cons_succ, List.getElem_cons_zero, Act.put, List.setIfInBounds_toArray, List.set_cons_zero, List.set_cons_succ]
    refine reg_take (i := 5) (v := ?_) rfl (by kernel_rfl) (by kernel_rfl) (by kernel_rfl) (fun _ _ _ h => h) (Or.inl ⟨by kernel_rfl, ?_⟩) hS ?_
    rotate_left
    · (intro w' hSw; obtain ⟨p0, p1, q0, q1⟩ := hSw; go_simp <;> with_reducible rfl)
    try simp only [List.getElem_toArray, List.getElem_cons_succ, List.getElem_cons_zero, Act.put, List.setIfInBounds_toArray, List.set_cons_zero, List.set_cons_succ]
    refine reg_take (i := 6) (v := ?_) rfl (by kernel_rfl) (by kernel_rfl) (by kernel_rfl) (fun _ _ _ h => h) (Or.inl ⟨by kernel_rfl, ?_⟩) hS ?_
    rotate_left
    · (intro w' hSw; obtain ⟨p0, p1, q0, q1⟩ := hSw; go_simp <;> with_reducible rfl)
    try simp only [List.getElem_toArray, List.getElem_cons_succ, List.getElem_cons_zero, Act.put, List.setIfInBounds_toArray, List.set_cons_zero, List.set_cons_succ]
    refine reg_take (i := 7) (v := ?_) rfl (by kernel_rfl) (by kernel_rfl) (by kernel_rfl) (fun _ _ _ h => h) (Or.inl ⟨by kernel_rfl, ?_⟩) hS ?_
    rotate_left
    · (intro w' hSw; obtain ⟨p0, p1, q0, q1⟩ := hSw; go_simp <;> with_reducible rfl)
    try simp only [List.getElem_toArray, List.getElem_cons_succ, List.getElem_cons_zero, Act.put, List.setIfInBounds_toArray, List.set_cons_zero, List.set_cons_succ]
    refine reg_take (i := 8) (v := ?_) rfl (by kernel_rfl) (by kernel_rfl) (by kernel_rfl) (fun _ _ _ h => h) (Or.inl ⟨by kernel_rfl, ?_⟩) hS ?_
    rotate_left
    · (intro w' hSw; obtain ⟨p0, p1, q0, q1⟩ := hSw; go_simp <;> with_reducible rfl)
    try simp only [List.getElem_toArray, List.getElem_cons_succ, List.getElem_cons_zero, Act.put, List.setIfInBounds_toArray, List.set_cons_zero, List.set_cons_succ]
    refine reg_take (i := 9) (v := ?_) rfl (by kernel_rfl) (by kernel_rfl) (by kernel_rfl) (fun _ _ _ h => h) (Or.inl ⟨by kernel_rfl, ?_⟩) hS ?_
    rotate_left
    · (intro w' hSw; go_simp <;> with_reducible rfl)
    try simp only [List.getElem_toArray, List.getElem_cons_succ, List.getElem_cons_zero, Act.put, List.setIfInBounds_toArray, List.set_cons_zero, List.set_cons_succ]
    refine reg_take (i := 10) (v := ?_) rfl (by kernel_rfl) (by kernel_rfl) (by kernel_rfl) (fun _ _ _ h => h) (Or.inl ⟨by kernel_rfl, ?_⟩) hS ?_
    rotate_left
    · (intro w' hSw; go_simp <;> with_reducible rfl)
    try simp only [List.getElem_toArray, List.getElem_cons_succ, List.getElem_cons_zero, Act.put, List.setIfInBounds_toArray, List.set_cons_zero, List.set_cons_succ]
    refine reg_take (i := 11) (v := ?_) rfl (by kernel_rfl) (by kernel_rfl) (by kernel_rfl) (fun _ _ _ h => h) (Or.inl ⟨by kernel_rfl, ?_⟩) hS ?_
    rotate_left
    · (intro w' hSw; obtain ⟨p0, p1, q0, q1⟩ := hSw; go_simp <;> with_reducible rfl)
    try simp only [List.getElem_toArray, List.getElem_cons_succ, List.getElem_cons_zero, Act.put, List.setIfInBounds_toArray, List.set_cons_zero, List.set_cons_succ]
    refine reg_take (i := 12) (v := ?_) rfl (by kernel_rfl) (by kernel_rfl) (by kernel_rfl) (fun _ _ _ h => h) (Or.inl ⟨by kernel_rfl, ?_⟩) hS ?_
    rotate_left
    · (intro w' hSw; obtain ⟨p0, p1, q0, q1⟩ := hSw; go_simp <;> with_reducible rfl)
    try simp only [List.getElem_toArray, List.getElem_cons_succ, List.getElem_cons_zero, Act.put, List.setIfInBounds_toArray, List.set_cons_zero, List.set_cons_succ]
    refine reg_take (i := 13) (v := ?_) rfl (by kernel_rfl) (by kernel_rfl) (by kernel_rfl) (fun _ _ _ h => h) (Or.inl ⟨by kernel_rfl, ?_⟩) hS ?_
    rotate_left
    · (intro w' hSw; obtain ⟨p0, p1, q0, q1⟩ := hSw; go_simp <;> with_reducible rfl)
    try simp only [List.getElem_toArray, List.getElem_cons_succ, List.getElem_cons_zero, Act.put, List.setIfInBounds_toArray, List.set_cons_zero, List.set_cons_succ]
    refine reg_take (i := 14) (v := ?_) rfl (by kernel_rfl) (by kernel_rfl) (by kernel_rfl) (fun _ _ _ h => h) (Or.inl ⟨by kernel_rfl, ?_⟩) hS ?_
    rotate_left
    · (intro w' hSw; obtain ⟨p0, p1, q0, q1⟩ := hSw; go_simp <;> with_reducible rfl)
    try simp only [List.getElem_toArray, List.getElem_cons_succ, List.getElem_cons_zero, Act.put, List.setIfInBounds_toArray, List.set_cons_zero, List.set_cons_succ]
    refine reg_take (i := 15) (v := ?_) rfl (by kernel_rfl) (by kernel_rfl) (by kernel_rfl) (fun _ _ _ h => h) (Or.inl ⟨by kernel_rfl, ?_⟩) hS ?_
    rotate_left
    · (intro w' hSw; obtain ⟨p0, p1, q0, q1⟩ := hSw; go_simp <;> with_reducible rfl)
    try simp only [List.getElem_toArray, List.getElem_cons_succ, List.getElem_cons_zero, Act.put, List.setIfInBounds_toArray, List.set_cons_zero, List.set_cons_succ]
    refine reg_take (i := 16) (v := ?_) rfl (by kernel_rfl) (by kernel_rfl) (by kernel_rfl) (fun _ _ _ h => h) (Or.inl ⟨by kernel_rfl, ?_⟩) hS ?_
    rotate_left
    · (intro w' hSw; go_simp <;> with_reducible rfl)
    try simp only [List.getElem_toArray, List.getElem_cons_succ, List.getElem_cons_zero, Act.put, List.setIfInBounds_toArray, List.set_cons_zero, List.set_cons_succ]
    refine reg_take (i := 17) (v := ?_) rfl (by kernel_rfl) (by kernel_rfl) (by kernel_rfl) (fun _ _ _ h => h) (Or.inl ⟨by kernel_rfl, ?_⟩) hS ?_
    rotate_left
    · (intro w' hSw; go_simp <;> with_reducible rfl)
    try simp only [List.getElem_toArray, List.getElem_cons_succ, List.getElem_cons_zero, Act.put, List.setIfInBounds_toArray, List.set_cons_zero, List.set_cons_succ]
    refine wpAnyH_done (by kernel_rfl) ?_ _
    try simp only [List.getElem_toArray, List.getElem_cons_succ, List.getElem_cons_zero]
    try simp only [List.getElem_toArray, List.getElem_cons_succ, List.getElem_cons_zero, Act.put, List.setIfInBounds_toArray, List.set_cons_zero, List.set_cons_succ]
    go_wp2_with fail
    go_ret
    exact ⟨by rw [d1, Bool.true_and]; rfl, H1.out.2⟩
  · have d1 : decide ((l : Int) ≤ y) = false := by simp; omega
    clear h1
    refine reg_take (i := 4) (v := ?_) rfl (by kernel_rfl) (by kernel_rfl) (by kernel_rfl) (fun _ _ _ h => h) (Or.inl ⟨by kernel_rfl, ?_⟩) hS ?_
    rotate_left
    · (intro w' hSw; obtain ⟨p0, p1, q0, q1⟩ := hSw; go_simp <;> with_reducible rfl)
    try simp only [List.getElem_toArray, List.getElem_cons_succ, List.getElem_cons_zero, Act.put, List.setIfInBounds_toArray, List.set_cons_zero, List.set_cons_succ]
    refine reg_take (i := 5) (v := ?_) rfl (by kernel_rfl) (by kernel_rfl) (by kernel_rfl) (fun _ _ _ h => h) (Or.inl ⟨by kernel_rfl, ?_⟩) hS ?_
    rotate_left
    · (intro w' hSw; obtain ⟨p0, p1, q0, q1⟩ := hSw; go_simp <;> with_reducible rfl)
    try simp only [List.getElem_toArray, List.getElem_cons_succ, List.getElem_cons_zero, Act.put, List.setIfInBounds_toArray, List.set_cons_zero, List.set_cons_succ]
    refine reg_take (i := 6) (v := ?_) rfl (by kernel_rfl) (by kernel_rfl) (by kernel_rfl) (fun _ _ _ h => h) (Or.inl ⟨by kernel_rfl, ?_⟩) hS ?_
    rotate_left
    · (intro w' hSw; obtain ⟨p0, p1, q0, q1⟩ := hSw; go_simp <;> with_reducible rfl)
    try simp only [List.getElem_toArray, List.getElem_cons_succ, List.getElem_cons_zero, Act.put, List.setIfInBounds_toArray, List.set_cons_zero, List.set_cons_succ]
    refine reg_take (i := 7) (v := ?_) rfl (by kernel_rfl) (by kernel_rfl) (by kernel_rfl) (fun _ _ _ h => h) (Or.inl ⟨by kernel_rfl, ?_⟩) hS ?_
    rotate_left
    · (intro w' hSw; obtain ⟨p0, p1, q0, q1⟩ := hSw; go_simp <;> with_reducible rfl)
    try simp only [List.getElem_toArray, List.getElem_cons_succ, List.getElem_cons_zero, Act.put, List.setIfInBounds_toArray, List.set_cons_zero, List.set_cons_succ]
    refine reg_take (i := 8) (v := ?_) rfl (by kernel_rfl) (by kernel_rfl) (by kernel_rfl) (fun _ _ _ h => h) (Or.inl ⟨by kernel_rfl, ?_⟩) hS ?_
    rotate_left
    · (intro w' hSw; obtain ⟨p0, p1, q0, q1⟩ := hSw; go_simp <;> with_reducible rfl)
    try simp only [List.getElem_toArray, List.getElem_cons_succ, List.getElem_cons_zero, Act.put, List.setIfInBounds_toArray, List.set_cons_zero, List.set_cons_succ]
    refine reg_take (i := 9) (v := ?_) rfl (by kernel_rfl) (by kernel_rfl) (by kernel_rfl) (fun _ _ _ h => h) (Or.inl ⟨by kernel_rfl, ?_⟩) hS ?_
    rotate_left
    · (intro w' hSw; go_simp <;> with_reducible rfl)
    try simp only [List.getElem_toArray, List.getElem_cons_succ, List.getElem_cons_zero, Act.put, List.setIfInBounds_toArray, List.set_cons_zero, List.set_cons_succ]
    refine reg_take (i := 10) (v := ?_) rfl (by kernel_rfl) (by kernel_rfl) (by kernel_rfl) (fun _ _ _ h => h) (Or.inl ⟨by kernel_rfl, ?_⟩) hS ?_
    rotate_left
    · (intro w' hSw; go_simp <;> with_reducible rfl)
    try simp only [List.getElem_toArray, List.getElem_cons_succ, List.getElem_cons_zero, Act.put, List.setIfInBounds_toArray, List.set_cons_zero, List.set_cons_succ]
    refine reg_take (i := 11) (v := undef) rfl (by kernel_rfl) (by kernel_rfl) (by kernel_rfl) (fun _ _ _ h => h) (Or.inr ⟨by kernel_rfl, rfl⟩) hS ?_
    try simp only [List.getElem_toArray, List.getElem_cons_succ, List.getElem_cons_zero, Act.put, List.setIfInBounds_toArray, List.set_cons_zero, List.set_cons_succ]
    refine reg_take (i := 12) (v := undef) rfl (by kernel_rfl) (by kernel_rfl) (by kernel_rfl) (fun _ _ _ h => h) (Or.inr ⟨by kernel_rfl, rfl⟩) hS ?_
    try simp only [List.getElem_toArray, List.getElem_cons_succ, List.getElem_cons_zero, Act.put, List.setIfInBounds_toArray, List.set_cons_zero, List.set_cons_succ]
    refine reg_take (i := 13) (v := undef) rfl (by kernel_rfl) (by kernel_rfl) (by kernel_rfl) (fun _ _ _ h => h) (Or.inr ⟨by kernel_rfl, rfl⟩) hS ?_
    try simp only [List.getElem_toArray, List.getElem_cons_succ, List.getElem_cons_zero, Act.put, List.setIfInBounds_toArray, List.set_cons_zero, List.set_cons_succ]
    refine reg_take (i := 14) (v := undef) rfl (by kernel_rfl) (by kernel_rfl) (by kernel_rfl) (fun _ _ _ h => h) (Or.inr ⟨by kernel_rfl, rfl⟩) hS ?_
    try simp only [List.getElem_toArray, List.getElem_cons_succ, List.getElem_cons_zero, Act.put, List.setIfInBounds_toArray, List.set_cons_zero, List.set_cons_succ]
    refine reg_take (i := 15) (v := undef) rfl (by kernel_rfl) (by kernel_rfl) (by kernel_rfl) (fun _ _ _ h => h) (Or.inr ⟨by kernel_rfl, rfl⟩) hS ?_
    try simp only [List.getElem_toArray, List.getElem_cons_succ, List.getElem_cons_zero, Act.put, List.setIfInBounds_toArray, List.set_cons_zero, List.set_cons_succ]
    refine reg_take (i := 16) (v := ?_) rfl (by kernel_rfl) (by kernel_rfl) (by kernel_rfl) (fun _ _ _ h => h) (Or.inl ⟨by kernel_rfl, ?_⟩) hS ?_
    rotate_left
    · (intro w' hSw; go_simp <;> with_reducible rfl)
    try simp only [List.getElem_toArray, List.getElem_cons_succ, List.getElem_cons_zero, Act.put, List.setIfInBounds_toArray, List.set_cons_zero, List.set_cons_succ]
    refine reg_take (i := 17) (v := ?_) rfl (by kernel_rfl) (by kernel_rfl) (by kernel_rfl) (fun _ _ _ h => h) (Or.inl ⟨by kernel_rfl, ?_⟩) hS ?_
    rotate_left
    · (intro w' hSw; go_simp <;> with_reducible rfl)
    try simp only [List.getElem_toArray, List.getElem_cons_succ, List.getElem_cons_zero, Act.put, List.setIfInBounds_toArray, List.set_cons_zero, List.set_cons_succ]
    refine wpAnyH_done (by kernel_rfl) ?_ _
    try simp only [List.getElem_toArray, List.getElem_cons_succ, List.getElem_cons_zero]
    try simp only [List.getElem_toArray, List.getElem_cons_succ, List.getElem_cons_zero, Act.put, List.setIfInBounds_toArray, List.set_cons_zero, List.set_cons_succ]
    go_wp2_with fail
    go_ret
    exact ⟨by rw [d1, Bool.false_and]; rfl, H1.out.2⟩
end Go.Proofs.YtopbbicjbjmdnaaGreatDoor.X
namespace Go.Proofs.YtopbbicjbjmdnaaGreatDoor
set_option maxRecDepth 100000
open Go.RowKit
def intV (b : Nat) : Value := .int .i64 (b : Int)
theorem intElem : Elem1 Tryz.prog 89 3 (.int .i64 0) 8 := Elem1.mk' Tryz.underlying89 rfl (by kernel_rfl)
theorem wrap_bit (v m : Nat) (hv : v < 18446744073709551616) : wrap64 (bits .and .u64 ((v : Int) / 2 ^ m) 1) = ((v / 2 ^ m % 2 : Nat) : Int) := by
  rw [and_one_u64' v m hv]
  have : v / 2 ^ m % 2 < 2 := Nat.mod_lt _ (by omega)
  exact IntWalk.wrap64_in _ ⟨by omega, by omega⟩
end Go.Proofs.YtopbbicjbjmdnaaGreatDoor
namespace Go.Proofs.YtopbbicjbjmdnaaGreatDoor
set_option maxRecDepth 100000
open Go.RowKit
theorem made_bytes (n : Nat) : (madeCells #[Value.int .u8 0] n).toList = (List.replicate n 0).map byteV := by
  rw [toList_madeCells_one, List.map_replicate]; rfl
end Go.Proofs.YtopbbicjbjmdnaaGreatDoor
namespace Go.Proofs.YtopbbicjbjmdnaaGreatDoor
set_option maxRecDepth 100000
open Go.RowKit
set_option linter.unusedSimpArgs false
set_option linter.unusedVariables false
theorem Rd.below {w w' : World} {r : Nat} {D : Nat → Prop} {bs : List Nat} {a en : Nat} (h : Rd w r D bs a en) (hb : Below w.heap.size w w') : Rd w' r D bs a en :=
  h.keeps (S := fun _ => False) (Keeps.of_below hb) (fun h => h) (fun _ _ h => h)
end Go.Proofs.YtopbbicjbjmdnaaGreatDoor
namespace Go.Proofs.YtopbbicjbjmdnaaGreatDoor.X
set_option maxRecDepth 100000
open Go.RowKit
set_option linter.unusedVariables false
set_option linter.unusedSimpArgs false
/-- Whether a window, if there is one, has what is other in it. -/
def fits (o : Option (Nat × Nat)) (x : Nat) : Bool := match o with
  | none => false
  | some p => decide (p.1 ≤ lead x) && decide (p.2 ≤ trail x)
def nextW (o : Option (Nat × Nat)) (x : Nat) : Option (Nat × Nat) := if x = 0 then o else if fits o x = true then o else some (lead x, trail x)
def winOf (o : Option (Nat × Nat)) : Nat × Nat := o.getD (0, 0)
def headB (o : Option (Nat × Nat)) (x : Nat) : List Nat :=
  if fits o x = true then bitsTo 2 2 2 else (bitsTo 3 2 2 ++ bitsTo (lead x) 6 6) ++ bitsTo (64 - lead x - trail x - 1) 6 6
def tailB (p : Nat × Nat) (x : Nat) : List Nat := bitsTo (x / 2 ^ p.2) (64 - p.1 - p.2) (64 - p.1 - p.2)
def xbits (o : Option (Nat × Nat)) (x : Nat) : List Nat := if x = 0 then bitsTo 0 1 1 else headB o x ++ tailB (winOf (nextW o x)) x
def xwin (f : Nat → Nat) : Nat → Option (Nat × Nat)
  | 0 => none
  | 1 => none
  | k + 2 => nextW (xwin f (k + 1)) (f (k + 1) ^^^ f k)
def xencTo (f : Nat → Nat) : Nat → List Nat
  | 0 => []
  | 1 => bitsTo (f 0) 64 64
  | k + 2 => xencTo f (k + 1) ++ xbits (xwin f (k + 1)) (f (k + 1) ^^^ f k)
theorem xbits_le (o : Option (Nat × Nat)) (x : Nat) : (xbits o x).length ≤ 78 := by
  unfold xbits headB tailB
  split
  · rw [bitsTo_length]; omega
  · rw [List.length_append, bitsTo_length]; split
    · rw [bitsTo_length]; omega
    · rw [List.length_append, List.length_append, bitsTo_length, bitsTo_length, bitsTo_length]; omega
theorem xbits_bit (o : Option (Nat × Nat)) (x : Nat) : ∀ j, (xbits o x).getD j 0 < 2 := by
  unfold xbits headB tailB
  split
  · exact bitsTo_bit _ _ _
  · refine bits_append ?_ (bitsTo_bit _ _ _)
    split
    · exact bitsTo_bit _ _ _
    · exact bits_append (bits_append (bitsTo_bit _ _ _) (bitsTo_bit _ _ _)) (bitsTo_bit _ _ _)
theorem xencTo_len (f : Nat → Nat) (k : Nat) : (xencTo f k).length ≤ 64 + 78 * k := by
  induction k with
  | zero => simp [xencTo]
  | succ k ih =>
    match k with
    | 0 => unfold xencTo; rw [bitsTo_length]; omega
    | k + 1 => unfold xencTo; rw [List.length_append]; have := xbits_le (xwin f (k + 1)) (f (k + 1) ^^^ f k); omega
theorem xencTo_bit (f : Nat → Nat) (k : Nat) : ∀ j, (xencTo f k).getD j 0 < 2 := by
  induction k with
  | zero => intro j; simp [xencTo]
  | succ k ih =>
    match k with
    | 0 => unfold xencTo; exact bitsTo_bit _ _ _
    | k + 1 => unfold xencTo; exact bits_append ih (xbits_bit _ _)
theorem xor_lt {a b : Nat} (ha : a < 18446744073709551616) (hb : b < 18446744073709551616) : a ^^^ b < 18446744073709551616 := Nat.xor_lt_two_pow (n := 64) ha hb
/-- A window that came of values: not wider than 63 bits left out. -/
def WinOk (o : Option (Nat × Nat)) : Prop := ∀ p, o = some p → p.1 + p.2 ≤ 63
theorem nextW_ok {o : Option (Nat × Nat)} {x : Nat} (h : WinOk o) (hx : x < 18446744073709551616) : WinOk (nextW o x) := by
  intro p hp
  unfold nextW at hp
  split at hp
  · exact h p hp
  · split at hp
    · exact h p hp
    · injection hp with hp; subst hp; exact window_le (by omega) hx
theorem xwin_ok {f : Nat → Nat} (hf : ∀ j, f j < 18446744073709551616) (k : Nat) : WinOk (xwin f k) := by
  induction k with
  | zero => intro p hp; cases hp
  | succ k ih =>
    match k with
    | 0 => intro p hp; cases hp
    | k + 1 => exact nextW_ok ih (xor_lt (hf _) (hf _))
/-- The window's cells. -/
def winC (o : Option (Nat × Nat)) : Array Value := match o with
  | none => #[.int .i64 (-1), .int .i64 (-1)]
  | some p => #[.int .i64 (p.1 : Nat), .int .i64 (p.2 : Nat)]
/-- The writer, and the window. -/
structure ES (w : World) (x y : Nat) (g : Option Nat) (L : List Nat) (o : Option (Nat × Nat)) (wr : World) : Prop where
  out : Wr wr x g L
  win : Blk wr y 118 (winC o)
  keeps : Keeps (fun _ => False) w wr
  own : ∀ q, g = some q → w.heap.size ≤ q
  hx : w.heap.size ≤ x
  hy : w.heap.size ≤ y
def EPutPost (w : World) (x y : Nat) (L : List Nat) (o : Option (Nat × Nat)) (e : Ending) (w' : World) : Prop :=
  e = .returned (.int .i64 0) ∧ ∃ g, ES w x y g L o w'
theorem put_es {w wr : World} {x y : Nat} {g : Option Nat} {L : List Nat} {o : Option (Nat × Nat)} (h : ES w x y g L o wr) (v n : Int) (h0 : 0 ≤ v) (hv : v < 18446744073709551616) (n0 : 0 ≤ n) (n64 : n ≤ 64) (hl : (L.length : Int) + 64 ≤ 8388608) :
    Calls Tryz.prog 52 #[.pointer (some ⟨x, 0, none⟩), .int .u64 v, .int .i64 n] wr (EPutPost w x y (L ++ bitsTo v.toNat n.toNat n.toNat) o) := by
  refine (put_fit _ _ _ _ v n h.out h0 hv n0 n64 hl).mono ?_
  rintro e w2 ⟨rfl, g2, hx2, hk2, hm2⟩
  obtain ⟨n1, n2⟩ := h.out.ne h.win (by decide) (by decide)
  exact ⟨rfl, g2, hx2, h.win.keeps hk2 (fun e => by rcases e with e | e; exact n1 e; exact n2 e), keeps_new h.keeps hk2 h.hx h.own, moved_new (w0 := w) hm2 h.keeps.size h.own, h.hx, h.hy⟩
theorem ES.below {w wr w' : World} {x y : Nat} {g : Option Nat} {L : List Nat} {o : Option (Nat × Nat)} (h : ES w x y g L o wr) (hb : Below wr.heap.size wr w') : ES w x y g L o w' := by
  have hk : Keeps (fun _ => False) wr w' := Keeps.of_below hb
  exact ⟨h.out.keeps hk (fun e => e) (fun _ _ e => e), h.win.below hb h.win.lt, h.keeps.trans' hk, h.own, h.hx, h.hy⟩
theorem winC_two (o : Option (Nat × Nat)) : ∃ l t : Int, winC o = #[.int .i64 l, .int .i64 t] := by
  cases o with
  | none => exact ⟨-1, -1, rfl⟩
  | some p => exact ⟨p.1, p.2, rfl⟩
theorem has_es (o : Option (Nat × Nat)) (q : Nat) (l t : Int) (hc : winC o = #[.int .i64 l, .int .i64 t]) (w : World) :
    Calls Tryz.prog 58 #[.agg #[.int .i64 l, .int .i64 t], .agg #[.int .i64 (lead q : Nat), .int .i64 (trail q : Nat)]] w fun e w' => e = .returned (.bool (fits o q)) ∧ Below w.heap.size w w' := by
  cases o with
  | none =>
    simp [winC] at hc
    obtain ⟨rfl, rfl⟩ := hc
    exact has_none _ _ w
  | some p =>
    simp [winC] at hc
    obtain ⟨rfl, rfl⟩ := hc
    have h := has_win p.1 p.2 (lead q : Nat) (trail q : Nat) w
    have e : fits (some p) q = (decide ((p.1 : Int) ≤ (lead q : Nat)) && decide ((p.2 : Int) ≤ (trail q : Nat))) := by simp [fits]
    rw [e]
    exact h
/-- Another window. -/
theorem ES.set {w wr : World} {x y : Nat} {g : Option Nat} {L : List Nat} {o : Option (Nat × Nat)} (h : ES w x y g L o wr) (l t : Nat) :
    ES w x y g L (some (l, t)) ((wr.setCell ⟨y, 0, none⟩ (.int .i64 (l : Nat))).setCell ⟨y, 1, none⟩ (.int .i64 (t : Nat))) := by
  obtain ⟨n1, n2⟩ := h.out.ne h.win (by decide) (by decide)
  obtain ⟨a, b, hc⟩ := winC_two o
  have hw := h.win
  rw [hc] at hw
  have hk : Keeps (fun k => k = y) wr ((wr.setCell ⟨y, 0, none⟩ (.int .i64 (l : Nat))).setCell ⟨y, 1, none⟩ (.int .i64 (t : Nat))) := ((Keeps.refl (fun k => k = y) wr).setCell (p := ⟨y, 0, none⟩) (fun _ => rfl) _).setCell (p := ⟨y, 1, none⟩) (fun _ => rfl) _
  refine ⟨h.out.keeps hk (fun e => n1 e.symm) (fun k hk e => n2 (by rw [hk, e])), hw.set2 _ _, h.keeps.trans hk (fun k hk e => by have := h.hy; omega), h.own, h.hx, h.hy⟩
theorem es_c0 {w wr : World} {x y : Nat} {g : Option Nat} {L : List Nat} {l t : Nat} (h : ES w x y g L (some (l, t)) wr) : wr.cell? ⟨y, 0, none⟩ = some (.int .i64 (l : Nat)) := by
  have := h.win.cell 0
  simpa [winC] using this
theorem es_c1 {w wr : World} {x y : Nat} {g : Option Nat} {L : List Nat} {l t : Nat} (h : ES w x y g L (some (l, t)) wr) : wr.cell? ⟨y, 1, none⟩ = some (.int .i64 (t : Nat)) := by
  have := h.win.cell 1
  simpa [winC] using this
theorem ES.drew {w wr : World} {x y : Nat} {g : Option Nat} {L : List Nat} {o : Option (Nat × Nat)} (h : ES w x y g L o wr) : ES w x y g L o wr.drew :=
  ⟨h.out.drewN 1, h.win.drew, h.keeps.drew, h.own, h.hx, h.hy⟩
theorem xbits_new {o : Option (Nat × Nat)} {q : Nat} (h0 : q ≠ 0) (hf : fits o q = false) :
    xbits o q = ((bitsTo 3 2 2 ++ bitsTo (lead q) 6 6) ++ bitsTo (64 - lead q - trail q - 1) 6 6) ++ bitsTo (q / 2 ^ trail q) (64 - lead q - trail q) (64 - lead q - trail q) ∧ nextW o q = some (lead q, trail q) := by
  have hn : nextW o q = some (lead q, trail q) := by unfold nextW; rw [if_neg h0, hf, if_neg (by simp)]
  refine ⟨?_, hn⟩
  unfold xbits headB
  rw [if_neg h0, hn, hf, if_neg (by simp)]
  rfl
theorem xbits_old {l t q : Nat} (h0 : q ≠ 0) (hf : fits (some (l, t)) q = true) :
    xbits (some (l, t)) q = bitsTo 2 2 2 ++ bitsTo (q / 2 ^ t) (64 - l - t) (64 - l - t) ∧ nextW (some (l, t)) q = some (l, t) := by
  have hn : nextW (some (l, t)) q = some (l, t) := by unfold nextW; rw [if_neg h0, hf, if_pos rfl]
  refine ⟨?_, hn⟩
  unfold xbits headB
  rw [if_neg h0, hn, hf, if_pos rfl]
  rfl
end Go.Proofs.YtopbbicjbjmdnaaGreatDoor.X
namespace Go.Proofs.YtopbbicjbjmdnaaGreatDoor.X
set_option maxRecDepth 100000
open Go.RowKit
set_option linter.unusedVariables false
set_option linter.unusedSimpArgs false
def XEncPost (w : World) (bs : List Nat) (e : Ending) (w' : World) : Prop :=
  ∃ A c, e = .returned (.tuple #[.slice A bs.length c, .int .i64 0]) ∧ w'.ownsRow w.heap.size 5 1 (.slice A bs.length c) bs.length (bs.map byteV) ∧ Keeps (fun _ => False) w w'
set_option maxRecDepth 100000 in
set_option maxHeartbeats 1600000 in
theorem xencode_any (w : World) (A : Option Addr) (len c : Nat) (D : Nat → Prop) (f : Nat → Nat) (hsl : Sl w D A len (fun j => .int .u64 (f j : Nat))) (hf : ∀ j, f j < 18446744073709551616) (hlen : len ≤ 4096) :
    Calls Tryz.prog 38 #[.slice A len c] w (XEncPost w (pack (xencTo f len))) := by
  have HS := Lib.hid (And.intro hsl hf)
  clear hsl hf
  have d0 : decide ((4096 : Int) < len) = false := by simp; omega
  go_enter Tryz.func38, Tryz.ntmps38
  go_wp2_with fail
  go_step3
  go_wp2_with fail
  refine (newWriter_any _).mono ?_
  rintro e w1 ⟨rfl, hx1, hk1⟩
  obtain ⟨x, hx⟩ : ∃ x, x = w.heap.size := ⟨_, rfl⟩
  rw [← hx] at hx1
  rw [← hx]
  have H1 := Lib.hid (And.intro hx1 (And.intro hk1 hx))
  clear hx1 hk1 hx d0
  go_wp2_with fail
  refine (none_any _).mono ?_
  rintro e w2 ⟨rfl, hb2⟩
  obtain ⟨y, hy⟩ : ∃ y, y = w2.heap.size := ⟨_, rfl⟩
  have H2 := Lib.hid (And.intro hb2 hy)
  clear hb2 hy
  go_wp2_with fail
  rw [← H2.out.2]
  go_step3
  go_wp2_with fail
  go_loopw [17] (fun i wr => ∃ (k : Nat) (g : Option Nat), k ≤ len ∧ i = .int .i64 k ∧ ES w x y g (xencTo f k) (xwin f k) wr)
    (fun i _ => len - (intOf i).toNat)
  case atStart =>
    obtain ⟨hx1, hk1, hx⟩ := H1.out
    obtain ⟨hb2, hy⟩ := H2.out
    have hk2 : Keeps (fun _ => False) w1 (w2.alloc (.cells #[.int .i64 (-1), .int .i64 (-1)] 118)) := (Keeps.of_below hb2).alloc _
    refine ⟨0, none, Nat.zero_le _, rfl, hx1.keeps hk2 (fun h => h) (fun _ _ h => h), ?_, hk1.trans' hk2, (fun _ h => by cases h), by omega, ?_⟩
    · rw [hy]; exact Blk.fresh _ _ _
    · rw [hy]; exact Nat.le_trans hk1.size hb2.size
  case round =>
    obtain ⟨k, g, hk, rfl, hes⟩ := hrel
    by_cases hlt : k < len
    · obtain ⟨b, off, hA, hD, hcell⟩ := (HS.out.1.keep (w' := wr) (fun q _ hq => hes.keeps.block q hq (fun h => h))) (by omega)
      have ck : wr.cell? ⟨b, off + k, none⟩ = some (.int .u64 (f k : Nat)) := hcell k hlt
      have hcp : 1 ≤ k → wr.cell? ⟨b, off + (k - 1), none⟩ = some (.int .u64 (f (k - 1) : Nat)) := fun h => hcell (k - 1) (by omega)
      subst hA
      have HE := Lib.hid hes
      clear hes hcell
      have hlk := xencTo_len f k
      rcases Nat.eq_zero_or_pos k with hk0 | hk0
      · subst hk0
        clear hcp hlk
        have hu := HS.out.2 0
        obtain ⟨u, hu'⟩ : ∃ u, u = f 0 := ⟨_, rfl⟩
        rw [← hu'] at ck hu
        have HU := Lib.hid (And.intro hu hu')
        clear hu hu'
        rw [show ((0 : Nat) : Int) = 0 from rfl]
        rw [Nat.add_zero] at ck
        go_wp2_with fail
        refine (put_es HE.out (u : Nat) 64 (by omega) (by have := HU.out.1; omega) (by omega) (by omega) (by simp [xencTo])).mono ?_
        rintro e w3 ⟨rfl, g3, hes3⟩
        have H3 := Lib.hid hes3
        clear hes3 ck
        go_wp2_with fail
        go_roundw
        case rel =>
          refine ⟨1, g3, by omega, rfl, ?_⟩
          have := H3.out
          rw [show ((u : Int)).toNat = u from rfl, show (64 : Int).toNat = 64 from rfl, HU.out.2] at this
          exact this
        case measure => simp [intOf]; omega
      · obtain ⟨j, rfl⟩ : ∃ j, k = j + 1 := ⟨k - 1, by omega⟩
        have cp := hcp (by omega)
        rw [show j + 1 - 1 = j by omega] at cp
        obtain ⟨a, ha⟩ : ∃ a, a = f (j + 1) := ⟨_, rfl⟩
        obtain ⟨p, hp⟩ : ∃ p, p = f j := ⟨_, rfl⟩
        obtain ⟨q, hq⟩ : ∃ q, q = a ^^^ p := ⟨_, rfl⟩
        have r1 := HS.out.2 (j + 1)
        have r2 := HS.out.2 j
        rw [← ha] at ck r1
        rw [← hp] at cp r2
        have hqx : bits .xor .u64 (a : Int) (p : Int) = (q : Int) := by rw [u64_xor_nat _ _ r1 r2, hq]
        have hql : q < 18446744073709551616 := by rw [hq]; exact xor_lt r1 r2
        obtain ⟨L, hL⟩ : ∃ L, L = xencTo f (j + 1) := ⟨_, rfl⟩
        obtain ⟨o, ho⟩ : ∃ o, o = xwin f (j + 1) := ⟨_, rfl⟩
        have hok : WinOk o := by rw [ho]; exact xwin_ok HS.out.2 _
        have hes := HE.out
        rw [← hL, ← ho] at hes
        rw [← hL] at hlk
        have hfin : ∀ k', k' = j + 2 → xencTo f k' = L ++ xbits o q ∧ xwin f k' = nextW o q := by
          rintro k' rfl; rw [hL, ho, hq, ha, hp]; exact ⟨rfl, rfl⟩
        clear HE
        have HE := Lib.hid (And.intro hes (And.intro hql (And.intro hok hfin)))
        clear hes hql hok hfin hL ho hq ha hp r1 r2 hcp hk0
        rw [show ((j + 1 : Nat) : Int) = (j : Int) + 1 from rfl]
        by_cases h0 : q = 0
        · subst h0
          rw [show ((0 : Nat) : Int) = 0 from rfl] at hqx
          go_wp2_with fail
          refine (put_es HE.out.1 0 1 (by omega) (by omega) (by omega) (by omega) (by omega)).mono ?_
          rintro e w3 ⟨rfl, g3, hes3⟩
          have H3 := Lib.hid hes3
          clear hes3 ck cp hqx
          go_wp2_with fail
          go_roundw
          case rel =>
            obtain ⟨e1, e2⟩ := HE.out.2.2.2 (j + 2) rfl
            refine ⟨j + 2, g3, by omega, by go_num, ?_⟩
            rw [e1, e2]
            exact H3.out
          case measure => simp [intOf]; omega
        · have dq : ((q : Int) == 0) = false := by simp [h0]
          have HQ := Lib.hid h0
          clear h0
          go_wp2_with fail
          refine (of_any q HE.out.2.1 _).mono ?_
          rintro e w3 ⟨rfl, hb3⟩
          obtain ⟨l, t, hc⟩ := winC_two o
          have hes3 := HE.out.1.below (hb3.alloc hb3.size (.cells #[.int .i64 (lead q : Nat), .int .i64 (trail q : Nat)] 118))
          have hbz := Blk.fresh w3 118 #[.int .i64 (lead q : Nat), .int .i64 (trail q : Nat)]
          have hw3 := hes3.win
          rw [hc] at hw3
          have p0 := hw3.cell 0
          have p1 := hw3.cell 1
          simp at p0 p1
          have H3 := Lib.hid (And.intro hes3 (And.intro hbz hc))
          clear hes3 hbz hw3 hc hb3 ck cp hqx dq
          go_wp2_with fail
          clear p0 p1
          refine (has_es o q l t H3.out.2.2 _).mono ?_
          rintro e w4 ⟨rfl, hb4⟩
          have hes4 := H3.out.1.below hb4
          have hbz4 := H3.out.2.1.below hb4 H3.out.2.1.lt
          obtain ⟨z, hz⟩ : ∃ z, z = w3.heap.size := ⟨_, rfl⟩
          rw [← hz] at hbz4
          rw [← hz]
          have H4 := Lib.hid (And.intro hes4 hbz4)
          clear hes4 hbz4 hb4 H3 hz
          cases hfit : fits o q
          · have HF := Lib.hid hfit
            clear hfit
            have hwl := window_le (u := q) (by have := HQ.out; omega) HE.out.2.1
            have hb := H4.out.1.win
            obtain ⟨l', t', hc'⟩ := winC_two o
            rw [hc'] at hb
            have f0 := hb.frozen
            have y0 := hb.cell 0
            have y1 := hb.cell 1
            have z0 := H4.out.2.cell 0
            have z1 := H4.out.2.cell 1
            simp at y0 y1 z0 z1
            obtain ⟨m, hm⟩ : ∃ m, m = lead q := ⟨_, rfl⟩
            obtain ⟨n, hn⟩ : ∃ n, n = trail q := ⟨_, rfl⟩
            have hset := H4.out.1.set (lead q) (trail q)
            rw [← hm] at z0
            rw [← hn] at z1
            rw [← hm, ← hn] at hwl hset
            rw [← hm, ← hn]
            have HM := Lib.hid (And.intro hm (And.intro hn hset))
            clear hm hn hset hb hc'
            go_wp2_with fail
            refine (put_es HM.out.2.2 3 2 (by omega) (by omega) (by omega) (by omega) (by omega)).mono ?_
            rintro e w5 ⟨rfl, g5, hes5⟩
            have H5 := Lib.hid hes5
            have y0 := es_c0 hes5
            have y1 := es_c1 hes5
            clear hes5 f0 z0 z1
            have ew : IntKind.u64.wrap (m : Int) = (m : Int) := by rw [IntKind.wrap_u64]; omega
            go_wp2_with fail
            refine (put_es H5.out (m : Nat) 6 (by omega) (by omega) (by omega) (by omega) (by simp only [List.length_append, bitsTo_length]; omega)).mono ?_
            rintro e w6 ⟨rfl, g6, hes6⟩
            clear y0 y1 ew
            have y0 := es_c0 hes6
            have y1 := es_c1 hes6
            have H6 := Lib.hid hes6
            clear hes6
            go_wp2_with fail
            refine (inside_any m n (by omega) _).mono ?_
            rintro e w7 ⟨rfl, hb7⟩
            have hes7 := H6.out.below hb7
            have H7 := Lib.hid hes7
            clear hb7 hes7 y0 y1
            obtain ⟨s, hs⟩ : ∃ s, s = 64 - m - n := ⟨_, rfl⟩
            rw [← hs]
            have hs1 : 1 ≤ s := by omega
            have hs64 : s ≤ 64 := by omega
            have HSS := Lib.hid hs
            clear hs
            have ew : IntKind.u64.wrap ((s : Int) - 1) = ((s - 1 : Nat) : Int) := by rw [IntKind.wrap_u64]; omega
            go_wp2_with fail
            refine (put_es H7.out ((s - 1 : Nat) : Int) 6 (by omega) (by omega) (by omega) (by omega) (by simp only [List.length_append, bitsTo_length]; omega)).mono ?_
            rintro e W8 ⟨rfl, g8, hes8⟩
            have HY := Lib.hid hes8
            clear hes8 ew
            go_wp2_with fail
            obtain ⟨v, hv⟩ : ∃ v, v = q / 2 ^ n := ⟨_, rfl⟩
            have hvi : (q : Int) / 2 ^ n = (v : Int) := by rw [hv, div_cast]
            have hvl : v < 18446744073709551616 := by rw [hv]; exact Nat.lt_of_le_of_lt (Nat.div_le_self _ _) HE.out.2.1
            have HV := Lib.hid (And.intro hv hvl)
            clear hv hvl
            have hn63 : n ≤ 63 := by omega
            have hn64 : n < 64 := by omega
            have hS : (fun w' : World => w'.cell? ⟨y, 0, none⟩ = some (.int .i64 (m : Nat)) ∧ w'.cell? ⟨y, 1, none⟩ = some (.int .i64 (n : Nat))) (W8.drew) := ⟨es_c0 HY.out.drew, es_c1 HY.out.drew⟩
            refine reg_start (fun w' : World => w'.cell? ⟨y, 0, none⟩ = some (.int .i64 (m : Nat)) ∧ w'.cell? ⟨y, 1, none⟩ = some (.int .i64 (n : Nat))) (by kernel_rfl) hS ?_
            refine reg_take (i := 0) (v := ?_) rfl (by kernel_rfl) (by kernel_rfl) (by kernel_rfl) (fun _ _ _ h => h) (Or.inl ⟨by kernel_rfl, ?_⟩) hS ?_
            rotate_left
            · (intro w' hSw; go_simp <;> with_reducible rfl)
            try simp only [List.getElem_toArray, List.getElem_cons_succ, List.getElem_cons_zero, Act.put, List.setIfInBounds_toArray, List.set_cons_zero, List.set_cons_succ]
            refine reg_take (i := 1) (v := ?_) rfl (by kernel_rfl) (by kernel_rfl) (by kernel_rfl) (fun _ _ _ h => h) (Or.inl ⟨by kernel_rfl, ?_⟩) hS ?_
            rotate_left
            · (intro w' hSw; go_simp <;> with_reducible rfl)
            try simp only [List.getElem_toArray, List.getElem_cons_succ, List.getElem_cons_zero, Act.put, List.setIfInBounds_toArray, List.set_cons_zero, List.set_cons_succ]
            refine reg_take (i := 2) (v := ?_) rfl (by kernel_rfl) (by kernel_rfl) (by kernel_rfl) (fun _ _ _ h => h) (Or.inl ⟨by kernel_rfl, ?_⟩) hS ?_
            rotate_left
            · (intro w' hSw; obtain ⟨p0, p1⟩ := hSw; go_simp <;> with_reducible rfl)
            try simp only [List.getElem_toArray, List.getElem_cons_succ, List.getElem_cons_zero, Act.put, List.setIfInBounds_toArray, List.set_cons_zero, List.set_cons_succ]
            refine reg_take (i := 3) (v := ?_) rfl (by kernel_rfl) (by kernel_rfl) (by kernel_rfl) (fun _ _ _ h => h) (Or.inl ⟨by kernel_rfl, ?_⟩) hS ?_
            rotate_left
            · (intro w' hSw; obtain ⟨p0, p1⟩ := hSw; go_simp <;> with_reducible rfl)
            try simp only [List.getElem_toArray, List.getElem_cons_succ, List.getElem_cons_zero, Act.put, List.setIfInBounds_toArray, List.set_cons_zero, List.set_cons_succ]
            refine reg_take (i := 4) (v := ?_) rfl (by kernel_rfl) (by kernel_rfl) (by kernel_rfl) (fun _ _ _ h => h) (Or.inl ⟨by kernel_rfl, ?_⟩) hS ?_
            rotate_left
            · (intro w' hSw; obtain ⟨p0, p1⟩ := hSw; go_simp <;> with_reducible rfl)
            try simp only [List.getElem_toArray, List.getElem_cons_succ, List.getElem_cons_zero, Act.put, List.setIfInBounds_toArray, List.set_cons_zero, List.set_cons_succ]
            refine reg_take (i := 5) (v := ?_) rfl (by kernel_rfl) (by kernel_rfl) (by kernel_rfl) (fun _ _ _ h => h) (Or.inl ⟨by kernel_rfl, ?_⟩) hS ?_
            rotate_left
            · (intro w' hSw; obtain ⟨p0, p1⟩ := hSw; go_simp <;> with_reducible rfl)
            try simp only [List.getElem_toArray, List.getElem_cons_succ, List.getElem_cons_zero, Act.put, List.setIfInBounds_toArray, List.set_cons_zero, List.set_cons_succ]
            refine reg_call (i := 6) rfl (by kernel_rfl) (fun K hK => ?_)
            have HK := Lib.hid hK
            clear hK
            go_simp
            refine (inside_any m n (by omega) W8.drew).mono ?_
            rintro e w9 ⟨rfl, hb9⟩
            have hes9 := HY.out.drew.below hb9
            have H9 := Lib.hid hes9
            clear hb9 hes9
            go_wp2_with fail
            refine HK.out.to (fun w' : World => w'.cell? ⟨y, 0, none⟩ = some (.int .i64 (m : Nat)) ∧ w'.cell? ⟨y, 1, none⟩ = some (.int .i64 (n : Nat))) (fun _ h => h) (⟨es_c0 H9.out, es_c1 H9.out⟩) ?_
            clear HK hS
            have hS : (fun w' : World => w'.cell? ⟨y, 0, none⟩ = some (.int .i64 (m : Nat)) ∧ w'.cell? ⟨y, 1, none⟩ = some (.int .i64 (n : Nat))) (w9) := ⟨es_c0 H9.out, es_c1 H9.out⟩
            try simp only [List.getElem_toArray, List.getElem_cons_succ, List.getElem_cons_zero, Act.put, List.setIfInBounds_toArray, List.set_cons_zero, List.set_cons_succ]
            refine reg_call (i := 7) rfl (by kernel_rfl) (fun K hK => ?_)
            have HK := Lib.hid hK
            clear hK
            go_simp
            refine (put_es H9.out (v : Nat) ((64 - m - n : Nat) : Int) (by omega) (by have := HV.out.2; omega) (by omega) (by omega) (by simp only [List.length_append, bitsTo_length]; omega)).mono ?_
            rintro e w10 ⟨rfl, g10, hes10⟩
            have H10 := Lib.hid hes10
            clear hes10
            go_wp2_with fail
            refine HK.out.to (fun w' : World => w'.cell? ⟨y, 0, none⟩ = some (.int .i64 (m : Nat)) ∧ w'.cell? ⟨y, 1, none⟩ = some (.int .i64 (n : Nat))) (fun _ h => h) (⟨es_c0 H10.out, es_c1 H10.out⟩) ?_
            clear HK hS
            have hS : (fun w' : World => w'.cell? ⟨y, 0, none⟩ = some (.int .i64 (m : Nat)) ∧ w'.cell? ⟨y, 1, none⟩ = some (.int .i64 (n : Nat))) (w10) := ⟨es_c0 H10.out, es_c1 H10.out⟩
            try simp only [List.getElem_toArray, List.getElem_cons_succ, List.getElem_cons_zero, Act.put, List.setIfInBounds_toArray, List.set_cons_zero, List.set_cons_succ]
            refine wpAnyH_done (by kernel_rfl) ?_ _
            try simp only [List.getElem_toArray, List.getElem_cons_succ, List.getElem_cons_zero]
            try simp only [List.getElem_toArray, List.getElem_cons_succ, List.getElem_cons_zero, Act.put, List.setIfInBounds_toArray, List.set_cons_zero, List.set_cons_succ]
            go_wp2_with fail
            go_roundw
            case rel =>
              obtain ⟨e1, e2⟩ := HE.out.2.2.2 (j + 2) rfl
              obtain ⟨e3, e4⟩ := xbits_new HQ.out HF.out
              refine ⟨j + 2, g10, by omega, by go_num, ?_⟩
              rw [e1, e2, e3, e4, ← List.append_assoc, ← List.append_assoc, ← List.append_assoc, ← HM.out.1, ← HM.out.2.1]
              have := H10.out
              rw [HSS.out, HV.out.1] at this
              exact this
            case measure => simp [intOf]; omega
          · obtain ⟨m, n, rfl⟩ : ∃ m n, o = some (m, n) := by
              cases o with
              | none => simp [fits] at hfit
              | some p => exact ⟨p.1, p.2, rfl⟩
            have HF := Lib.hid hfit
            clear hfit
            have hwl : m + n ≤ 63 := HE.out.2.2.1 (m, n) rfl
            go_wp2_with fail
            refine (put_es H4.out.1 2 2 (by omega) (by omega) (by omega) (by omega) (by omega)).mono ?_
            rintro e W8 ⟨rfl, g8, hes8⟩
            have HY := Lib.hid hes8
            clear hes8
            go_wp2_with fail
            obtain ⟨v, hv⟩ : ∃ v, v = q / 2 ^ n := ⟨_, rfl⟩
            have hvi : (q : Int) / 2 ^ n = (v : Int) := by rw [hv, div_cast]
            have hvl : v < 18446744073709551616 := by rw [hv]; exact Nat.lt_of_le_of_lt (Nat.div_le_self _ _) HE.out.2.1
            have HV := Lib.hid (And.intro hv hvl)
            clear hv hvl
            have hn63 : n ≤ 63 := by omega
            have hn64 : n < 64 := by omega
            have hS : (fun w' : World => w'.cell? ⟨y, 0, none⟩ = some (.int .i64 (m : Nat)) ∧ w'.cell? ⟨y, 1, none⟩ = some (.int .i64 (n : Nat))) (W8.drew) := ⟨es_c0 HY.out.drew, es_c1 HY.out.drew⟩
            refine reg_start (fun w' : World => w'.cell? ⟨y, 0, none⟩ = some (.int .i64 (m : Nat)) ∧ w'.cell? ⟨y, 1, none⟩ = some (.int .i64 (n : Nat))) (by kernel_rfl) hS ?_
            refine reg_take (i := 0) (v := ?_) rfl (by kernel_rfl) (by kernel_rfl) (by kernel_rfl) (fun _ _ _ h => h) (Or.inl ⟨by kernel_rfl, ?_⟩) hS ?_
            rotate_left
            · (intro w' hSw; go_simp <;> with_reducible rfl)
            try simp only [List.getElem_toArray, List.getElem_cons_succ, List.getElem_cons_zero, Act.put, List.setIfInBounds_toArray, List.set_cons_zero, List.set_cons_succ]
            refine reg_take (i := 1) (v := ?_) rfl (by kernel_rfl) (by kernel_rfl) (by kernel_rfl) (fun _ _ _ h => h) (Or.inl ⟨by kernel_rfl, ?_⟩) hS ?_
            rotate_left
            · (intro w' hSw; go_simp <;> with_reducible rfl)
            try simp only [List.getElem_toArray, List.getElem_cons_succ, List.getElem_cons_zero, Act.put, List.setIfInBounds_toArray, List.set_cons_zero, List.set_cons_succ]
            refine reg_take (i := 2) (v := ?_) rfl (by kernel_rfl) (by kernel_rfl) (by kernel_rfl) (fun _ _ _ h => h) (Or.inl ⟨by kernel_rfl, ?_⟩) hS ?_
            rotate_left
            · (intro w' hSw; obtain ⟨p0, p1⟩ := hSw; go_simp <;> with_reducible rfl)
            try simp only [List.getElem_toArray, List.getElem_cons_succ, List.getElem_cons_zero, Act.put, List.setIfInBounds_toArray, List.set_cons_zero, List.set_cons_succ]
            refine reg_take (i := 3) (v := ?_) rfl (by kernel_rfl) (by kernel_rfl) (by kernel_rfl) (fun _ _ _ h => h) (Or.inl ⟨by kernel_rfl, ?_⟩) hS ?_
            rotate_left
            · (intro w' hSw; obtain ⟨p0, p1⟩ := hSw; go_simp <;> with_reducible rfl)
            try simp only [List.getElem_toArray, List.getElem_cons_succ, List.getElem_cons_zero, Act.put, List.setIfInBounds_toArray, List.set_cons_zero, List.set_cons_succ]
            refine reg_take (i := 4) (v := ?_) rfl (by kernel_rfl) (by kernel_rfl) (by kernel_rfl) (fun _ _ _ h => h) (Or.inl ⟨by kernel_rfl, ?_⟩) hS ?_
            rotate_left
            · (intro w' hSw; obtain ⟨p0, p1⟩ := hSw; go_simp <;> with_reducible rfl)
            try simp only [List.getElem_toArray, List.getElem_cons_succ, List.getElem_cons_zero, Act.put, List.setIfInBounds_toArray, List.set_cons_zero, List.set_cons_succ]
            refine reg_take (i := 5) (v := ?_) rfl (by kernel_rfl) (by kernel_rfl) (by kernel_rfl) (fun _ _ _ h => h) (Or.inl ⟨by kernel_rfl, ?_⟩) hS ?_
            rotate_left
            · (intro w' hSw; obtain ⟨p0, p1⟩ := hSw; go_simp <;> with_reducible rfl)
            try simp only [List.getElem_toArray, List.getElem_cons_succ, List.getElem_cons_zero, Act.put, List.setIfInBounds_toArray, List.set_cons_zero, List.set_cons_succ]
            refine reg_call (i := 6) rfl (by kernel_rfl) (fun K hK => ?_)
            have HK := Lib.hid hK
            clear hK
            go_simp
            refine (inside_any m n (by omega) W8.drew).mono ?_
            rintro e w9 ⟨rfl, hb9⟩
            have hes9 := HY.out.drew.below hb9
            have H9 := Lib.hid hes9
            clear hb9 hes9
            go_wp2_with fail
            refine HK.out.to (fun w' : World => w'.cell? ⟨y, 0, none⟩ = some (.int .i64 (m : Nat)) ∧ w'.cell? ⟨y, 1, none⟩ = some (.int .i64 (n : Nat))) (fun _ h => h) (⟨es_c0 H9.out, es_c1 H9.out⟩) ?_
            clear HK hS
            have hS : (fun w' : World => w'.cell? ⟨y, 0, none⟩ = some (.int .i64 (m : Nat)) ∧ w'.cell? ⟨y, 1, none⟩ = some (.int .i64 (n : Nat))) (w9) := ⟨es_c0 H9.out, es_c1 H9.out⟩
            try simp only [List.getElem_toArray, List.getElem_cons_succ, List.getElem_cons_zero, Act.put, List.setIfInBounds_toArray, List.set_cons_zero, List.set_cons_succ]
            refine reg_call (i := 7) rfl (by kernel_rfl) (fun K hK => ?_)
            have HK := Lib.hid hK
            clear hK
            go_simp
            refine (put_es H9.out (v : Nat) ((64 - m - n : Nat) : Int) (by omega) (by have := HV.out.2; omega) (by omega) (by omega) (by simp only [List.length_append, bitsTo_length]; omega)).mono ?_
            rintro e w10 ⟨rfl, g10, hes10⟩
            have H10 := Lib.hid hes10
            clear hes10
            go_wp2_with fail
            refine HK.out.to (fun w' : World => w'.cell? ⟨y, 0, none⟩ = some (.int .i64 (m : Nat)) ∧ w'.cell? ⟨y, 1, none⟩ = some (.int .i64 (n : Nat))) (fun _ h => h) (⟨es_c0 H10.out, es_c1 H10.out⟩) ?_
            clear HK hS
            have hS : (fun w' : World => w'.cell? ⟨y, 0, none⟩ = some (.int .i64 (m : Nat)) ∧ w'.cell? ⟨y, 1, none⟩ = some (.int .i64 (n : Nat))) (w10) := ⟨es_c0 H10.out, es_c1 H10.out⟩
            try simp only [List.getElem_toArray, List.getElem_cons_succ, List.getElem_cons_zero, Act.put, List.setIfInBounds_toArray, List.set_cons_zero, List.set_cons_succ]
            refine wpAnyH_done (by kernel_rfl) ?_ _
            try simp only [List.getElem_toArray, List.getElem_cons_succ, List.getElem_cons_zero]
            try simp only [List.getElem_toArray, List.getElem_cons_succ, List.getElem_cons_zero, Act.put, List.setIfInBounds_toArray, List.set_cons_zero, List.set_cons_succ]
            go_wp2_with fail
            go_roundw
            case rel =>
              obtain ⟨e1, e2⟩ := HE.out.2.2.2 (j + 2) rfl
              obtain ⟨e3, e4⟩ := xbits_old HQ.out HF.out
              refine ⟨j + 2, g10, by omega, by go_num, ?_⟩
              rw [e1, e2, e3, e4, ← List.append_assoc]
              have := H10.out
              rw [HV.out.1] at this
              exact this
            case measure => simp [intOf]; omega
    · obtain rfl : k = len := by omega
      have HR := Lib.hid (And.intro hes.out hes.keeps)
      clear hes
      go_wp2_with fail
      refine (bytes_wr _ _ _ _ HR.out.1).mono ?_
      rintro e w3 ⟨A2, c2, rfl, ho2, hk2⟩
      have H3 := Lib.hid (And.intro (own_base ho2 HR.out.2.size) (HR.out.2.trans' hk2))
      clear ho2 hk2
      go_wp2_with fail
      go_ret2
      exact ⟨A2, c2, rfl, H3.out.1, H3.out.2⟩
end Go.Proofs.YtopbbicjbjmdnaaGreatDoor.X
namespace Go.Proofs.YtopbbicjbjmdnaaGreatDoor
open Go.RowKit
set_option linter.unusedVariables false
set_option linter.unusedSimpArgs false
def tOf (f : Nat → Pt) (n j : Nat) : Int := if j < n then (f j).t else 0
def sOf (f : Nat → Pt) (n j : Nat) : Int := if j < n then (f j).s else 0
def vOf (f : Nat → Pt) (n j : Nat) : Nat := if j < n then (IntKind.u64.wrap (f j).v).toNat else 0
/-- The three parts of a column. -/
def partA (f : Nat → Pt) (n : Nat) : Nat → List Nat
  | 0 => pack (D.encTo (tOf f n) n)
  | 1 => pack (X.xencTo (vOf f n) n)
  | _ => pack (D.encTo (sOf f n) n)
def colUp (f : Nat → Pt) (n : Nat) : Nat → List Nat
  | 0 => V.vput n
  | j + 1 => colUp f n j ++ V.vput (partA f n j).length ++ partA f n j
def colL (f : Nat → Pt) (n : Nat) : List Nat × Int := if colV f n = true then (F.sealL 3 (colUp f n 3), 0) else ([], 2)
theorem u64_lt (v : Int) : (IntKind.u64.wrap v).toNat < 18446744073709551616 := by rw [IntKind.wrap_u64]; omega
theorem vOf_lt (f : Nat → Pt) (n j : Nat) : vOf f n j < 18446744073709551616 := by
  unfold vOf
  split
  · exact u64_lt _
  · omega
theorem partA_byte (f : Nat → Pt) (n j : Nat) : ∀ i, (partA f n j).getD i 0 < 256 := by
  intro i
  match j with
  | 0 => show (pack _).getD i 0 < 256; rw [pack_getD]; exact byteAt_lt (D.encTo_bit _ _) i
  | 1 => show (pack _).getD i 0 < 256; rw [pack_getD]; exact byteAt_lt (X.xencTo_bit _ _) i
  | j + 2 => show (pack _).getD i 0 < 256; rw [pack_getD]; exact byteAt_lt (D.encTo_bit _ _) i
theorem partA_len (f : Nat → Pt) (n j : Nat) (hn : n ≤ 4096) : (partA f n j).length ≤ 40000 := by
  match j with
  | 0 => show (pack _).length ≤ _; rw [pack_length]; have := D.encTo_len (tOf f n) n; omega
  | 1 => show (pack _).length ≤ _; rw [pack_length]; have := X.xencTo_len (vOf f n) n; omega
  | j + 2 => show (pack _).length ≤ _; rw [pack_length]; have := D.encTo_len (sOf f n) n; omega
theorem vput_getD (u : Nat) : ∀ i, (V.vput u).getD i 0 < 256 := V.getD_all_lt (V.vput_byte u)
theorem colUp_byte (f : Nat → Pt) (n : Nat) : ∀ j i, (colUp f n j).getD i 0 < 256
  | 0 => vput_getD n
  | j + 1 => V.getD_app_lt (V.getD_app_lt (colUp_byte f n j) (vput_getD _)) (partA_byte f n j)
theorem colUp_len (f : Nat → Pt) (n : Nat) (hn : n ≤ 4096) : ∀ j, (colUp f n j).length ≤ 10 + j * 40010
  | 0 => by have := V.vput_len10 (u := n) (by omega); show (V.vput n).length ≤ _; omega
  | j + 1 => by
    have h1 := colUp_len f n hn j
    have h2 := partA_len f n j hn
    have h3 := V.vput_len10 (u := (partA f n j).length) (by omega)
    show (colUp f n j ++ V.vput (partA f n j).length ++ partA f n j).length ≤ _
    rw [List.length_append, List.length_append]
    omega
theorem colOk_range {f : Nat → Pt} {n : Nat} (h : colV f n = true) (j : Nat) (hj : j < n) : -9223372036854775808 ≤ (f j).t ∧ (f j).t ≤ 9223372036854775807 ∧ -9223372036854775808 ≤ (f j).s ∧ (f j).s ≤ 9223372036854775807 := by
  have ha := (colV_spec h).1
  have hl : ∀ m, m < n → -1152921504606846977 ≤ colT f m := by
    intro m
    induction m with
    | zero => intro _; exact Int.le_refl _
    | succ m ih =>
      intro hm
      have h4 := (colOk_iff f m).1 (colAll_at n ha m (by omega))
      have := ih (by omega)
      show _ ≤ (f m).t
      omega
  have h4 := (colOk_iff f j).1 (colAll_at n ha j hj)
  have := hl j hj
  omega
theorem tOf_range {f : Nat → Pt} {n : Nat} (h : colV f n = true) (j : Nat) : -9223372036854775808 ≤ tOf f n j ∧ tOf f n j ≤ 9223372036854775807 := by
  unfold tOf
  split
  · rename_i hj; have := colOk_range h j hj; omega
  · omega
theorem sOf_range {f : Nat → Pt} {n : Nat} (h : colV f n = true) (j : Nat) : -9223372036854775808 ≤ sOf f n j ∧ sOf f n j ≤ 9223372036854775807 := by
  unfold sOf
  split
  · rename_i hj; have := colOk_range h j hj; omega
  · omega
/-- The cells of the three rows: times, values, numbers. -/
def colC (f : Nat → Pt) (c : Fin 3) (j : Nat) : Value :=
  match c with
  | 0 => .int .i64 (f j).t
  | 1 => .int .u64 (IntKind.u64.wrap (f j).v)
  | 2 => .int .i64 (f j).s
def colRow (f : Nat → Pt) (k : Nat) (c : Fin 3) : List Value := (List.range k).map (colC f c)
theorem colRow_len (f : Nat → Pt) (k : Nat) (c : Fin 3) : (colRow f k c).length = k := by simp [colRow]
theorem colRow_succ (f : Nat → Pt) (k : Nat) (c : Fin 3) : colRow f (k + 1) c = colRow f k c ++ [colC f c k] := by unfold colRow; rw [List.range_succ, List.map_append]; rfl
def cE (c : Fin 3) : TypeId := match c with | 0 => 3 | 1 => 54 | 2 => 3
def cT (c : Fin 3) : TypeId := match c with | 0 => 89 | 1 => 90 | 2 => 89
def cZ (c : Fin 3) : Value := match c with | 0 => .int .i64 0 | 1 => .int .u64 0 | 2 => .int .i64 0
theorem cElem (c : Fin 3) : Elem1 Tryz.prog (cT c) (cE c) (cZ c) 8 :=
  match c with
  | 0 => Elem1.mk' Tryz.underlying89 rfl (by kernel_rfl)
  | 1 => Elem1.mk' Tryz.underlying90 rfl (by kernel_rfl)
  | 2 => Elem1.mk' Tryz.underlying89 rfl (by kernel_rfl)
theorem map_sl {w : World} {base : Nat} {e : TypeId} {n c : Nat} {A : Option Addr} {g g' : Nat → Value} (ho : w.ownsRow base e 1 (.slice A n c) n ((List.range n).map g)) (h : ∀ j, j < n → g j = g' j) : Sl w (fun k => (Value.slice A n c).ownBlock = some k) A n g' := by
  refine Sl.of_own ho ?_
  intro j u hu
  rw [List.getElem?_map] at hu
  rcases Nat.lt_or_ge j n with hj | hj
  · rw [List.getElem?_range hj] at hu
    rw [← h j hj]
    simpa using hu.symm
  · rw [List.getElem?_eq_none (by simpa using hj)] at hu
    cases hu
theorem txt_strB {bs : List Nat} (h : ∀ j, bs.getD j 0 < 256) : V.txt (strB bs) = bs := by
  unfold V.txt strB
  simp only [List.map_map]
  conv => rhs; rw [← List.map_id bs]
  apply List.map_congr_left
  intro b hb
  have : b < 256 := F.mem_byte h b hb
  simp
  omega
theorem strB_size (bs : List Nat) : (strB bs).size = bs.length := by simp [strB, ByteArray.size]
/-- What stands behind the rows of the first n points. -/
structure Rows3 (w0 w : World) (f : Nat → Pt) (n : Nat) (v : Fin 3 → Value) : Prop where
  r : R3 cE w0 w w0.heap.size v (colRow f n)
theorem r3_sl {w0 w : World} {x n : Nat} {v : Fin 3 → Value} {f : Nat → Pt} (h : R3 cE w0 w x v (colRow f n)) (c : Fin 3) : ∃ A cap, v c = .slice A n cap ∧ n ≤ cap ∧ ∀ g', (∀ j, j < n → colC f c j = g' j) → Sl w (fun k => k < w.heap.size) A n g' := by
  have ho := h.own c
  rw [colRow_len] at ho
  obtain ⟨A, cap, hv, hc, -⟩ := own_form ho
  rw [hv] at ho
  refine ⟨A, cap, hv, hc, fun g' hg => (map_sl ho hg).mono (fun k hk => (ho.lt k hk).2)⟩
theorem col_t {f : Nat → Pt} {n j : Nat} (h : j < n) : colC f 0 j = .int .i64 (tOf f n j) := by unfold tOf; rw [if_pos h]; rfl
theorem col_s {f : Nat → Pt} {n j : Nat} (h : j < n) : colC f 2 j = .int .i64 (sOf f n j) := by unfold sOf; rw [if_pos h]; rfl
theorem col_v {f : Nat → Pt} {n j : Nat} (h : j < n) : colC f 1 j = .int .u64 (vOf f n j : Nat) := by
  unfold vOf; rw [if_pos h]
  show Value.int .u64 _ = _
  congr 1
  rw [IntKind.wrap_u64]; omega
/-- A part that an encoder has given. -/
structure PartIs (w0 w : World) (A : Option Addr) (c : Nat) (bs : List Nat) : Prop where
  own : w.ownsRow w0.heap.size 5 1 (.slice A bs.length c) bs.length (bs.map byteV)
theorem PartIs.keeps {w0 w w' : World} {A : Option Addr} {c : Nat} {bs : List Nat} (h : PartIs w0 w A c bs) (hk : Keeps (fun _ => False) w w') : PartIs w0 w' A c bs := ⟨own_keeps h.own hk (fun _ _ h => h)⟩
theorem PartIs.sl {w0 w : World} {A : Option Addr} {c : Nat} {bs : List Nat} (h : PartIs w0 w A c bs) : Sl w (fun k => k < w.heap.size) A bs.length (byteC bs) := V.ow_sl h.own
/-- The bytes laid so far. -/
def InIs (w0 w : World) (v : Value) (bs : List Nat) : Prop := w.ownsRow w0.heap.size 5 1 v bs.length (bs.map byteV)
theorem InIs.keeps {w0 w w' : World} {v : Value} {bs : List Nat} (h : InIs w0 w v bs) (hk : Keeps (fun _ => False) w w') : InIs w0 w' v bs := own_keeps h hk (fun _ _ h => h)
theorem InIs.form {w0 w : World} {v : Value} {bs : List Nat} (h : InIs w0 w v bs) : ∃ A c, v = .slice A bs.length c ∧ bs.length ≤ c ∧ Sl w (fun k => k < w.heap.size) A bs.length (byteC bs) := by
  unfold InIs at h
  obtain ⟨A, c, rfl, hc, -⟩ := own_form h
  exact ⟨A, c, rfl, hc, V.ow_sl h⟩
theorem col_up (f : Nat → Pt) (n j : Nat) : colUp f n j ++ V.vput (strB (partA f n j)).size ++ V.txt (strB (partA f n j)) = colUp f n (j + 1) := by
  rw [strB_size, txt_strB (partA_byte f n j)]; rfl
theorem col_bad {w w' : World} {f : Nat → Pt} {n : Nat} (h : colV f n = false) (hk : Keeps (fun _ => False) w w') : F.BytesPost w (colL f n).1 (colL f n).2 (.returned (.tuple #[.slice none 0 0, .int .i64 2])) w' := by
  unfold colL
  rw [h]
  exact ⟨none, 0, rfl, ⟨rfl, .inl ⟨rfl, rfl⟩⟩, hk⟩
theorem col_good {w w1 w' : World} {f : Nat → Pt} {n : Nat} {e : Ending} (h : colV f n = true) (hk : Keeps (fun _ => False) w w1) (hp : F.BytesPost w1 (F.sealL 3 (colUp f n 3)) 0 e w') : F.BytesPost w (colL f n).1 (colL f n).2 e w' := by
  unfold colL
  rw [h]
  obtain ⟨A, c, h1, h2, h3⟩ := hp
  exact ⟨A, c, h1, own_base h2 hk.size, hk.trans' h3⟩
end Go.Proofs.YtopbbicjbjmdnaaGreatDoor
