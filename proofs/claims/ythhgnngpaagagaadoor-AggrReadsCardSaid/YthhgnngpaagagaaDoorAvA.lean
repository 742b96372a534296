/-
  The contracts of aggr's reader: num, int, point. (Printed by genAvA.py and mk.py.)
-/
import Derived.Test.YthhgnngpaagagaaDoorAvPl
import Derived.Test.YthhgnngpaagagaaDoorErE
import Derived.Test.YthhgnngpaagagaaDoorAgL
import Derived.Test.YthhgnngpaagagaaDoorLmS
namespace Go.Proofs.YthhgnngpaagagaaDoor
open Go.RowKit
set_option linter.unusedVariables false
set_option linter.unusedSimpArgs false
theorem oneU8a (w : World) : (sizeOf 5).run Tryd.prog w = .ok 1 w := by kernel_rfl
/-- The bytes that are read. -/
structure RdIn (w0 : World) (A : Option Addr) (n c : Nat) (l : List Nat) : Prop where
  len : l.length = n
  byte : ∀ j, l.getD j 0 < 256
  sl : Sl w0 (fun q => q < w0.heap.size) A n (byteC l)
  cap : n ≤ c
  big : c ≤ 9223372036854775807
  small : n ≤ 1125899906842624
  herr : HErr w0
def numPost (w0 : World) (L : List (Nat × TypeId × Array Value)) (x : Nat) (A : Option Addr) (n c : Nat) (l : List Nat) (k : Nat) (e : Ending) (w' : World) : Prop :=
  e = .returned (.int .u64 ((rdVal l k) : Nat)) ∧ Own w0 ((x, 50, #[.slice A n c, .int .i64 ((rdAt l (k + 1)).1 : Nat), .int .i64 ((rdAt l (k + 1)).2 : Nat)]) :: L) w'
set_option maxRecDepth 100000 in
set_option maxHeartbeats 4000000 in
theorem num_any (w0 w : World) (L : List (Nat × TypeId × Array Value)) (x : Nat) (A : Option Addr) (n c : Nat) (l : List Nat) (k : Nat) (hr : RdIn w0 A n c l)
    (hS : Own w0 ((x, 50, #[.slice A n c, .int .i64 ((rdAt l k).1 : Nat), .int .i64 ((rdAt l k).2 : Nat)]) :: L) w) :
    Calls Tryd.prog 13 #[.pointer (some ⟨x, 0, none⟩)] w (numPost w0 L x A n c l k) := by
  have hat := rdAt_le l k
  rw [hr.len] at hat
  have hs1 : ((rdAt l (k + 1)).1 : Int) = ((rdAt l k).1 : Int) + ((vget (l.drop (rdAt l k).1)).2.1 : Int) := by rw [rdAt_succ]; simp
  have hs2 : ((rdAt l (k + 1)).2 : Int) = if (rdAt l k).2 = 0 then ((vget (l.drop (rdAt l k).1)).2.2 : Int) else ((rdAt l k).2 : Int) := by rw [rdAt_succ]; simp only []; split <;> rfl
  have hv1 : rdVal l k = (vget (l.drop (rdAt l k).1)).1 := rfl
  obtain ⟨p, hp⟩ : ∃ p, p = (rdAt l k).1 := ⟨_, rfl⟩
  obtain ⟨e0, he0⟩ : ∃ e, e = (rdAt l k).2 := ⟨_, rfl⟩
  have he1 := rdAt_e l k
  rw [← hp] at hat hs1 hs2 hv1 hS
  rw [← he0] at hs2 hS he1
  have hm : (l.drop p).length = n - p := by rw [List.length_drop, hr.len]
  have hvl := vget_lt (l.drop p)
  rw [hm] at hvl
  have hve := vget_e (l.drop p)
  obtain ⟨A1, hA1, hA2⟩ := slice_from (P := Tryd.prog) 29 5 Tryd.underlying29 oneU8a A n c p hat hr.cap
  have HR := Lib.hid (And.intro hr (And.intro hA2 (And.intro hm (And.intro hs1 (And.intro hs2 hv1)))))
  have hcap := hr.cap
  have hbig := hr.big
  clear hr hA2 hm hs1 hs2 hv1 hp he0
  go_enter Tryd.func13, Tryd.ntmps13
  go_upto_region 1 with (fail)
  have HS := Lib.hid hS
  clear hS
  have hS : (Own w0 ((x, 50, #[.slice A n c, .int .i64 (p : Nat), .int .i64 (e0 : Nat)]) :: L)) (w.drew) := HS.out.drew
  refine reg_start (Own w0 ((x, 50, #[.slice A n c, .int .i64 (p : Nat), .int .i64 (e0 : Nat)]) :: L)) (by kernel_rfl) hS ?_
  refine reg_take (i := 0) (v := ?_) rfl (by kernel_rfl) (by kernel_rfl) (by kernel_rfl) (fun _ _ _ h => h) (Or.inl ⟨by kernel_rfl, ?_⟩) hS ?_
  rotate_left
  · (intro w' hSw; go_simp <;> with_reducible rfl)
  try simp only [List.getElem_toArray, List.getElem_cons_succ, List.getElem_cons_zero, Act.put, List.setIfInBounds_toArray, List.set_cons_zero, List.set_cons_succ]
  refine reg_take (i := 1) (v := ?_) rfl (by kernel_rfl) (by kernel_rfl) (by kernel_rfl) (fun _ _ _ h => h) (Or.inl ⟨by kernel_rfl, ?_⟩) hS ?_
  rotate_left
  · (intro w' hSw; go_simp <;> with_reducible rfl)
  try simp only [List.getElem_toArray, List.getElem_cons_succ, List.getElem_cons_zero, Act.put, List.setIfInBounds_toArray, List.set_cons_zero, List.set_cons_succ]
  refine reg_take (i := 2) (v := ?_) rfl (by kernel_rfl) (by kernel_rfl) (by kernel_rfl) (fun _ _ _ h => h) (Or.inl ⟨by kernel_rfl, ?_⟩) hS ?_
  rotate_left
  · (intro w' hSw; go_simp <;> with_reducible rfl)
  try simp only [List.getElem_toArray, List.getElem_cons_succ, List.getElem_cons_zero, Act.put, List.setIfInBounds_toArray, List.set_cons_zero, List.set_cons_succ]
  refine reg_take (i := 3) (v := ?_) rfl (by kernel_rfl) (by kernel_rfl) (by kernel_rfl) (fun _ _ _ h => h) (Or.inl ⟨by kernel_rfl, ?_⟩) hS ?_
  rotate_left
  · (intro w' hSw; have u0 := hSw.cell 0 0 rfl rfl; go_simp <;> with_reducible rfl)
  try simp only [List.getElem_toArray, List.getElem_cons_succ, List.getElem_cons_zero, Act.put, List.setIfInBounds_toArray, List.set_cons_zero, List.set_cons_succ]
  refine reg_take (i := 4) (v := ?_) rfl (by kernel_rfl) (by kernel_rfl) (by kernel_rfl) (fun _ _ _ h => h) (Or.inl ⟨by kernel_rfl, ?_⟩) hS ?_
  rotate_left
  · (intro w' hSw; go_simp <;> with_reducible rfl)
  try simp only [List.getElem_toArray, List.getElem_cons_succ, List.getElem_cons_zero, Act.put, List.setIfInBounds_toArray, List.set_cons_zero, List.set_cons_succ]
  refine reg_take (i := 5) (v := ?_) rfl (by kernel_rfl) (by kernel_rfl) (by kernel_rfl) (fun _ _ _ h => h) (Or.inl ⟨by kernel_rfl, ?_⟩) hS ?_
  rotate_left
  · (intro w' hSw; go_simp <;> with_reducible rfl)
  try simp only [List.getElem_toArray, List.getElem_cons_succ, List.getElem_cons_zero, Act.put, List.setIfInBounds_toArray, List.set_cons_zero, List.set_cons_succ]
  refine reg_take (i := 6) (v := ?_) rfl (by kernel_rfl) (by kernel_rfl) (by kernel_rfl) (fun _ _ _ h => h) (Or.inl ⟨by kernel_rfl, ?_⟩) hS ?_
  rotate_left
  · (intro w' hSw; go_simp <;> with_reducible rfl)
  try simp only [List.getElem_toArray, List.getElem_cons_succ, List.getElem_cons_zero, Act.put, List.setIfInBounds_toArray, List.set_cons_zero, List.set_cons_succ]
  refine reg_take (i := 7) (v := ?_) rfl (by kernel_rfl) (by kernel_rfl) (by kernel_rfl) (fun _ _ _ h => h) (Or.inl ⟨by kernel_rfl, ?_⟩) hS ?_
  rotate_left
  · (intro w' hSw; have u0 := hSw.cell 0 1 rfl rfl; go_simp <;> with_reducible rfl)
  try simp only [List.getElem_toArray, List.getElem_cons_succ, List.getElem_cons_zero, Act.put, List.setIfInBounds_toArray, List.set_cons_zero, List.set_cons_succ]
  refine reg_take (i := 8) (v := ?_) rfl (by kernel_rfl) (by kernel_rfl) (by kernel_rfl) (fun _ _ _ h => h) (Or.inl ⟨by kernel_rfl, ?_⟩) hS ?_
  rotate_left
  · (intro w' hSw; go_simp <;> with_reducible rfl)
  try simp only [List.getElem_toArray, List.getElem_cons_succ, List.getElem_cons_zero, Act.put, List.setIfInBounds_toArray, List.set_cons_zero, List.set_cons_succ]
  generalize w.drew = wd at hS ⊢
  have HD := Lib.hid hS
  refine reg_call (i := 9) rfl (by kernel_rfl) (fun K hK => ?_)
  have HK := Lib.hid hK
  clear hK
  go_simp
  refine (vread_any _ _ A1 (n - p) (c - p) (l.drop p) HR.out.2.2.1 (getD_drop_lt HR.out.1.byte p) (HR.out.2.1 wd _ l (sl_later HR.out.1.sl HD.out.bel)) (by omega) (HR.out.1.herr.below HD.out.bel)).mono ?_
  rintro e w1 ⟨rfl, hb1⟩
  obtain ⟨u, hu⟩ : ∃ u, u = (vget (l.drop p)).1 := ⟨_, rfl⟩
  obtain ⟨q, hq⟩ : ∃ q, q = (vget (l.drop p)).2.1 := ⟨_, rfl⟩
  obtain ⟨r, hrr⟩ : ∃ r, r = (vget (l.drop p)).2.2 := ⟨_, rfl⟩
  rw [← hu, ← hq] at hvl
  rw [← hrr] at hve
  rw [← hu, ← hq, ← hrr]
  obtain ⟨hu64, hq10, hqn⟩ := hvl
  have hr11 : r ≤ 11 := by rcases hve with h | ⟨h | h, -⟩ <;> omega
  obtain ⟨z, hz⟩ : ∃ z : Int, z = (u : Nat) := ⟨_, rfl⟩
  have HU := Lib.hid (And.intro hu (And.intro hq (And.intro hrr hz)))
  rw [← hz]
  have H1 := Lib.hid (HD.out.call hb1)
  clear hb1 hu hq hrr hve hz hA1 HD HS
  go_wp2_with fail
  refine HK.out.to (Own w0 ((x, 50, #[.slice A n c, .int .i64 (p : Nat), .int .i64 (e0 : Nat)]) :: L)) (fun _ h => h) (H1.out) ?_
  clear HK hS
  have hS : (Own w0 ((x, 50, #[.slice A n c, .int .i64 (p : Nat), .int .i64 (e0 : Nat)]) :: L)) (w1) := H1.out
  try simp only [List.getElem_toArray, List.getElem_cons_succ, List.getElem_cons_zero, Act.put, List.setIfInBounds_toArray, List.set_cons_zero, List.set_cons_succ]
  refine reg_take (i := 10) (v := ?_) rfl (by kernel_rfl) (by kernel_rfl) (by kernel_rfl) (fun _ _ _ h => h) (Or.inl ⟨by kernel_rfl, ?_⟩) hS ?_
  rotate_left
  · (intro w' hSw; go_simp <;> with_reducible rfl)
  try simp only [List.getElem_toArray, List.getElem_cons_succ, List.getElem_cons_zero, Act.put, List.setIfInBounds_toArray, List.set_cons_zero, List.set_cons_succ]
  refine reg_take (i := 11) (v := ?_) rfl (by kernel_rfl) (by kernel_rfl) (by kernel_rfl) (fun _ _ _ h => h) (Or.inl ⟨by kernel_rfl, ?_⟩) hS ?_
  rotate_left
  · (intro w' hSw; go_simp <;> with_reducible rfl)
  try simp only [List.getElem_toArray, List.getElem_cons_succ, List.getElem_cons_zero, Act.put, List.setIfInBounds_toArray, List.set_cons_zero, List.set_cons_succ]
  refine reg_take (i := 12) (v := ?_) rfl (by kernel_rfl) (by kernel_rfl) (by kernel_rfl) (fun _ _ _ h => h) (Or.inl ⟨by kernel_rfl, ?_⟩) hS ?_
  rotate_left
  · (intro w' hSw; go_simp <;> with_reducible rfl)
  try simp only [List.getElem_toArray, List.getElem_cons_succ, List.getElem_cons_zero, Act.put, List.setIfInBounds_toArray, List.set_cons_zero, List.set_cons_succ]
  refine reg_take (i := 13) (v := ?_) rfl (by kernel_rfl) (by kernel_rfl) (by kernel_rfl) (fun _ _ _ h => h) (Or.inl ⟨by kernel_rfl, ?_⟩) hS ?_
  rotate_left
  · (intro w' hSw; go_simp <;> with_reducible rfl)
  try simp only [List.getElem_toArray, List.getElem_cons_succ, List.getElem_cons_zero, Act.put, List.setIfInBounds_toArray, List.set_cons_zero, List.set_cons_succ]
  refine reg_take (i := 14) (v := ?_) rfl (by kernel_rfl) (by kernel_rfl) (by kernel_rfl) (fun _ _ _ h => h) (Or.inl ⟨by kernel_rfl, ?_⟩) hS ?_
  rotate_left
  · (intro w' hSw; go_simp <;> with_reducible rfl)
  try simp only [List.getElem_toArray, List.getElem_cons_succ, List.getElem_cons_zero, Act.put, List.setIfInBounds_toArray, List.set_cons_zero, List.set_cons_succ]
  refine reg_take (i := 15) (v := ?_) rfl (by kernel_rfl) (by kernel_rfl) (by kernel_rfl) (fun _ _ _ h => h) (Or.inl ⟨by kernel_rfl, ?_⟩) hS ?_
  rotate_left
  · (intro w' hSw; go_simp <;> with_reducible rfl)
  try simp only [List.getElem_toArray, List.getElem_cons_succ, List.getElem_cons_zero, Act.put, List.setIfInBounds_toArray, List.set_cons_zero, List.set_cons_succ]
  refine reg_take (i := 16) (v := ?_) rfl (by kernel_rfl) (by kernel_rfl) (by kernel_rfl) (fun _ _ _ h => h) (Or.inl ⟨by kernel_rfl, ?_⟩) hS ?_
  rotate_left
  · (intro w' hSw; go_simp <;> with_reducible rfl)
  try simp only [List.getElem_toArray, List.getElem_cons_succ, List.getElem_cons_zero, Act.put, List.setIfInBounds_toArray, List.set_cons_zero, List.set_cons_succ]
  refine wpAnyH_done (by kernel_rfl) ?_ _
  try simp only [List.getElem_toArray, List.getElem_cons_succ, List.getElem_cons_zero]
  try simp only [List.getElem_toArray, List.getElem_cons_succ, List.getElem_cons_zero, Act.put, List.setIfInBounds_toArray, List.set_cons_zero, List.set_cons_succ]
  clear hS
  have hS := H1.out
  have z0_0 := hS.cell 0 0 rfl rfl
  have z0_1 := hS.cell 0 1 rfl rfl
  have z0_2 := hS.cell 0 2 rfl rfl
  have zf0 := hS.free 0 rfl
  clear hS
  have hw : wrap64 ((p : Int) + (q : Int)) = (p : Int) + (q : Int) := by unfold wrap64; omega
  by_cases h0 : e0 = 0
  · have d : ((e0 : Int) == 0) = true := by simp [h0]
    have h2 := (H1.out.set 0 2 rfl (.int .i64 (r : Nat))).set 0 1 rfl (.int .i64 ((p : Int) + (q : Int)))
    have HP := Lib.hid h2
    have HZ := Lib.hid h0
    clear h2 h0
    go_wp2_with fail
    go_ret
    obtain ⟨hu, hq, hrr, hz⟩ := HU.out
    refine ⟨by rw [HR.out.2.2.2.2.2, ← hu, ← hz]; rfl, ?_⟩
    rw [HR.out.2.2.2.1, HR.out.2.2.2.2.1, if_pos HZ.out, ← hq, ← hrr]
    exact HP.out
  · have d : ((e0 : Int) == 0) = false := by simp [h0]
    have h2 := H1.out.set 0 1 rfl (.int .i64 ((p : Int) + (q : Int)))
    have HP := Lib.hid h2
    have HZ := Lib.hid h0
    clear h2 h0
    go_wp2_with fail
    go_ret
    obtain ⟨hu, hq, hrr, hz⟩ := HU.out
    refine ⟨by rw [HR.out.2.2.2.2.2, ← hu, ← hz]; rfl, ?_⟩
    rw [HR.out.2.2.2.1, HR.out.2.2.2.2.1, if_neg HZ.out, ← hq]
    exact HP.out
def int_Post (w0 : World) (L : List (Nat × TypeId × Array Value)) (x : Nat) (A : Option Addr) (n c : Nat) (l : List Nat) (k : Nat) (e : Ending) (w' : World) : Prop :=
  e = .returned (.int .i64 (zag (rdVal l k))) ∧ Own w0 ((x, 50, #[.slice A n c, .int .i64 ((rdAt l (k + 1)).1 : Nat), .int .i64 ((rdAt l (k + 1)).2 : Nat)]) :: L) w'
set_option maxRecDepth 100000 in
set_option maxHeartbeats 4000000 in
theorem int__any (w0 w : World) (L : List (Nat × TypeId × Array Value)) (x : Nat) (A : Option Addr) (n c : Nat) (l : List Nat) (k : Nat) (hr : RdIn w0 A n c l)
    (hS : Own w0 ((x, 50, #[.slice A n c, .int .i64 ((rdAt l k).1 : Nat), .int .i64 ((rdAt l k).2 : Nat)]) :: L) w) :
    Calls Tryd.prog 14 #[.pointer (some ⟨x, 0, none⟩)] w (int_Post w0 L x A n c l k) := by
  have hat := rdAt_le l k
  rw [hr.len] at hat
  have hs1 : ((rdAt l (k + 1)).1 : Int) = ((rdAt l k).1 : Int) + ((vget (l.drop (rdAt l k).1)).2.1 : Int) := by rw [rdAt_succ]; simp
  have hs2 : ((rdAt l (k + 1)).2 : Int) = if (rdAt l k).2 = 0 then ((vget (l.drop (rdAt l k).1)).2.2 : Int) else ((rdAt l k).2 : Int) := by rw [rdAt_succ]; simp only []; split <;> rfl
  have hv1 : rdVal l k = (vget (l.drop (rdAt l k).1)).1 := rfl
  obtain ⟨p, hp⟩ : ∃ p, p = (rdAt l k).1 := ⟨_, rfl⟩
  obtain ⟨e0, he0⟩ : ∃ e, e = (rdAt l k).2 := ⟨_, rfl⟩
  have he1 := rdAt_e l k
  rw [← hp] at hat hs1 hs2 hv1 hS
  rw [← he0] at hs2 hS he1
  have hm : (l.drop p).length = n - p := by rw [List.length_drop, hr.len]
  have hvl := vget_lt (l.drop p)
  rw [hm] at hvl
  have hve := vget_e (l.drop p)
  obtain ⟨A1, hA1, hA2⟩ := slice_from (P := Tryd.prog) 29 5 Tryd.underlying29 oneU8a A n c p hat hr.cap
  have HR := Lib.hid (And.intro hr (And.intro hA2 (And.intro hm (And.intro hs1 (And.intro hs2 hv1)))))
  have hcap := hr.cap
  have hbig := hr.big
  clear hr hA2 hm hs1 hs2 hv1 hp he0
  go_enter Tryd.func14, Tryd.ntmps14
  go_upto_region 1 with (fail)
  have HS := Lib.hid hS
  clear hS
  have hS : (Own w0 ((x, 50, #[.slice A n c, .int .i64 (p : Nat), .int .i64 (e0 : Nat)]) :: L)) (w.drew) := HS.out.drew
  refine reg_start (Own w0 ((x, 50, #[.slice A n c, .int .i64 (p : Nat), .int .i64 (e0 : Nat)]) :: L)) (by kernel_rfl) hS ?_
  refine reg_take (i := 0) (v := ?_) rfl (by kernel_rfl) (by kernel_rfl) (by kernel_rfl) (fun _ _ _ h => h) (Or.inl ⟨by kernel_rfl, ?_⟩) hS ?_
  rotate_left
  · (intro w' hSw; go_simp <;> with_reducible rfl)
  try simp only [List.getElem_toArray, List.getElem_cons_succ, List.getElem_cons_zero, Act.put, List.setIfInBounds_toArray, List.set_cons_zero, List.set_cons_succ]
  refine reg_take (i := 1) (v := ?_) rfl (by kernel_rfl) (by kernel_rfl) (by kernel_rfl) (fun _ _ _ h => h) (Or.inl ⟨by kernel_rfl, ?_⟩) hS ?_
  rotate_left
  · (intro w' hSw; go_simp <;> with_reducible rfl)
  try simp only [List.getElem_toArray, List.getElem_cons_succ, List.getElem_cons_zero, Act.put, List.setIfInBounds_toArray, List.set_cons_zero, List.set_cons_succ]
  refine reg_take (i := 2) (v := ?_) rfl (by kernel_rfl) (by kernel_rfl) (by kernel_rfl) (fun _ _ _ h => h) (Or.inl ⟨by kernel_rfl, ?_⟩) hS ?_
  rotate_left
  · (intro w' hSw; go_simp <;> with_reducible rfl)
  try simp only [List.getElem_toArray, List.getElem_cons_succ, List.getElem_cons_zero, Act.put, List.setIfInBounds_toArray, List.set_cons_zero, List.set_cons_succ]
  refine reg_take (i := 3) (v := ?_) rfl (by kernel_rfl) (by kernel_rfl) (by kernel_rfl) (fun _ _ _ h => h) (Or.inl ⟨by kernel_rfl, ?_⟩) hS ?_
  rotate_left
  · (intro w' hSw; have u0 := hSw.cell 0 0 rfl rfl; go_simp <;> with_reducible rfl)
  try simp only [List.getElem_toArray, List.getElem_cons_succ, List.getElem_cons_zero, Act.put, List.setIfInBounds_toArray, List.set_cons_zero, List.set_cons_succ]
  refine reg_take (i := 4) (v := ?_) rfl (by kernel_rfl) (by kernel_rfl) (by kernel_rfl) (fun _ _ _ h => h) (Or.inl ⟨by kernel_rfl, ?_⟩) hS ?_
  rotate_left
  · (intro w' hSw; go_simp <;> with_reducible rfl)
  try simp only [List.getElem_toArray, List.getElem_cons_succ, List.getElem_cons_zero, Act.put, List.setIfInBounds_toArray, List.set_cons_zero, List.set_cons_succ]
  refine reg_take (i := 5) (v := ?_) rfl (by kernel_rfl) (by kernel_rfl) (by kernel_rfl) (fun _ _ _ h => h) (Or.inl ⟨by kernel_rfl, ?_⟩) hS ?_
  rotate_left
  · (intro w' hSw; go_simp <;> with_reducible rfl)
  try simp only [List.getElem_toArray, List.getElem_cons_succ, List.getElem_cons_zero, Act.put, List.setIfInBounds_toArray, List.set_cons_zero, List.set_cons_succ]
  refine reg_take (i := 6) (v := ?_) rfl (by kernel_rfl) (by kernel_rfl) (by kernel_rfl) (fun _ _ _ h => h) (Or.inl ⟨by kernel_rfl, ?_⟩) hS ?_
  rotate_left
  · (intro w' hSw; go_simp <;> with_reducible rfl)
  try simp only [List.getElem_toArray, List.getElem_cons_succ, List.getElem_cons_zero, Act.put, List.setIfInBounds_toArray, List.set_cons_zero, List.set_cons_succ]
  refine reg_take (i := 7) (v := ?_) rfl (by kernel_rfl) (by kernel_rfl) (by kernel_rfl) (fun _ _ _ h => h) (Or.inl ⟨by kernel_rfl, ?_⟩) hS ?_
  rotate_left
  · (intro w' hSw; have u0 := hSw.cell 0 1 rfl rfl; go_simp <;> with_reducible rfl)
  try simp only [List.getElem_toArray, List.getElem_cons_succ, List.getElem_cons_zero, Act.put, List.setIfInBounds_toArray, List.set_cons_zero, List.set_cons_succ]
  refine reg_take (i := 8) (v := ?_) rfl (by kernel_rfl) (by kernel_rfl) (by kernel_rfl) (fun _ _ _ h => h) (Or.inl ⟨by kernel_rfl, ?_⟩) hS ?_
  rotate_left
  · (intro w' hSw; go_simp <;> with_reducible rfl)
  try simp only [List.getElem_toArray, List.getElem_cons_succ, List.getElem_cons_zero, Act.put, List.setIfInBounds_toArray, List.set_cons_zero, List.set_cons_succ]
  generalize w.drew = wd at hS ⊢
  have HD := Lib.hid hS
  refine reg_call (i := 9) rfl (by kernel_rfl) (fun K hK => ?_)
  have HK := Lib.hid hK
  clear hK
  go_simp
  refine (vreadInt_any _ _ A1 (n - p) (c - p) (l.drop p) HR.out.2.2.1 (getD_drop_lt HR.out.1.byte p) (HR.out.2.1 wd _ l (sl_later HR.out.1.sl HD.out.bel)) (by omega) (HR.out.1.herr.below HD.out.bel)).mono ?_
  rintro e w1 ⟨rfl, hb1⟩
  obtain ⟨u, hu⟩ : ∃ u, u = (vget (l.drop p)).1 := ⟨_, rfl⟩
  obtain ⟨q, hq⟩ : ∃ q, q = (vget (l.drop p)).2.1 := ⟨_, rfl⟩
  obtain ⟨r, hrr⟩ : ∃ r, r = (vget (l.drop p)).2.2 := ⟨_, rfl⟩
  rw [← hu, ← hq] at hvl
  rw [← hrr] at hve
  rw [← hu, ← hq, ← hrr]
  obtain ⟨hu64, hq10, hqn⟩ := hvl
  have hr11 : r ≤ 11 := by rcases hve with h | ⟨h | h, -⟩ <;> omega
  obtain ⟨z, hz⟩ : ∃ z : Int, z = (zag u) := ⟨_, rfl⟩
  have HU := Lib.hid (And.intro hu (And.intro hq (And.intro hrr hz)))
  rw [← hz]
  have H1 := Lib.hid (HD.out.call hb1)
  clear hb1 hu hq hrr hve hz hA1 HD HS
  go_wp2_with fail
  refine HK.out.to (Own w0 ((x, 50, #[.slice A n c, .int .i64 (p : Nat), .int .i64 (e0 : Nat)]) :: L)) (fun _ h => h) (H1.out) ?_
  clear HK hS
  have hS : (Own w0 ((x, 50, #[.slice A n c, .int .i64 (p : Nat), .int .i64 (e0 : Nat)]) :: L)) (w1) := H1.out
  try simp only [List.getElem_toArray, List.getElem_cons_succ, List.getElem_cons_zero, Act.put, List.setIfInBounds_toArray, List.set_cons_zero, List.set_cons_succ]
  refine reg_take (i := 10) (v := ?_) rfl (by kernel_rfl) (by kernel_rfl) (by kernel_rfl) (fun _ _ _ h => h) (Or.inl ⟨by kernel_rfl, ?_⟩) hS ?_
  rotate_left
  · (intro w' hSw; go_simp <;> with_reducible rfl)
  try simp only [List.getElem_toArray, List.getElem_cons_succ, List.getElem_cons_zero, Act.put, List.setIfInBounds_toArray, List.set_cons_zero, List.set_cons_succ]
  refine reg_take (i := 11) (v := ?_) rfl (by kernel_rfl) (by kernel_rfl) (by kernel_rfl) (fun _ _ _ h => h) (Or.inl ⟨by kernel_rfl, ?_⟩) hS ?_
  rotate_left
  · (intro w' hSw; go_simp <;> with_reducible rfl)
  try simp only [List.getElem_toArray, List.getElem_cons_succ, List.getElem_cons_zero, Act.put, List.setIfInBounds_toArray, List.set_cons_zero, List.set_cons_succ]
  refine reg_take (i := 12) (v := ?_) rfl (by kernel_rfl) (by kernel_rfl) (by kernel_rfl) (fun _ _ _ h => h) (Or.inl ⟨by kernel_rfl, ?_⟩) hS ?_
  rotate_left
  · (intro w' hSw; go_simp <;> with_reducible rfl)
  try simp only [List.getElem_toArray, List.getElem_cons_succ, List.getElem_cons_zero, Act.put, List.setIfInBounds_toArray, List.set_cons_zero, List.set_cons_succ]
  refine reg_take (i := 13) (v := ?_) rfl (by kernel_rfl) (by kernel_rfl) (by kernel_rfl) (fun _ _ _ h => h) (Or.inl ⟨by kernel_rfl, ?_⟩) hS ?_
  rotate_left
  · (intro w' hSw; go_simp <;> with_reducible rfl)
  try simp only [List.getElem_toArray, List.getElem_cons_succ, List.getElem_cons_zero, Act.put, List.setIfInBounds_toArray, List.set_cons_zero, List.set_cons_succ]
  refine reg_take (i := 14) (v := ?_) rfl (by kernel_rfl) (by kernel_rfl) (by kernel_rfl) (fun _ _ _ h => h) (Or.inl ⟨by kernel_rfl, ?_⟩) hS ?_
  rotate_left
  · (intro w' hSw; go_simp <;> with_reducible rfl)
  try simp only [List.getElem_toArray, List.getElem_cons_succ, List.getElem_cons_zero, Act.put, List.setIfInBounds_toArray, List.set_cons_zero, List.set_cons_succ]
  refine reg_take (i := 15) (v := ?_) rfl (by kernel_rfl) (by kernel_rfl) (by kernel_rfl) (fun _ _ _ h => h) (Or.inl ⟨by kernel_rfl, ?_⟩) hS ?_
  rotate_left
  · (intro w' hSw; go_simp <;> with_reducible rfl)
  try simp only [List.getElem_toArray, List.getElem_cons_succ, List.getElem_cons_zero, Act.put, List.setIfInBounds_toArray, List.set_cons_zero, List.set_cons_succ]
  refine reg_take (i := 16) (v := ?_) rfl (by kernel_rfl) (by kernel_rfl) (by kernel_rfl) (fun _ _ _ h => h) (Or.inl ⟨by kernel_rfl, ?_⟩) hS ?_
  rotate_left
  · (intro w' hSw; go_simp <;> with_reducible rfl)
  try simp only [List.getElem_toArray, List.getElem_cons_succ, List.getElem_cons_zero, Act.put, List.setIfInBounds_toArray, List.set_cons_zero, List.set_cons_succ]
  refine wpAnyH_done (by kernel_rfl) ?_ _
  try simp only [List.getElem_toArray, List.getElem_cons_succ, List.getElem_cons_zero]
  try simp only [List.getElem_toArray, List.getElem_cons_succ, List.getElem_cons_zero, Act.put, List.setIfInBounds_toArray, List.set_cons_zero, List.set_cons_succ]
  clear hS
  have hS := H1.out
  have z0_0 := hS.cell 0 0 rfl rfl
  have z0_1 := hS.cell 0 1 rfl rfl
  have z0_2 := hS.cell 0 2 rfl rfl
  have zf0 := hS.free 0 rfl
  clear hS
  have hw : wrap64 ((p : Int) + (q : Int)) = (p : Int) + (q : Int) := by unfold wrap64; omega
  by_cases h0 : e0 = 0
  · have d : ((e0 : Int) == 0) = true := by simp [h0]
    have h2 := (H1.out.set 0 2 rfl (.int .i64 (r : Nat))).set 0 1 rfl (.int .i64 ((p : Int) + (q : Int)))
    have HP := Lib.hid h2
    have HZ := Lib.hid h0
    clear h2 h0
    go_wp2_with fail
    go_ret
    obtain ⟨hu, hq, hrr, hz⟩ := HU.out
    refine ⟨by rw [HR.out.2.2.2.2.2, ← hu, ← hz]; rfl, ?_⟩
    rw [HR.out.2.2.2.1, HR.out.2.2.2.2.1, if_pos HZ.out, ← hq, ← hrr]
    exact HP.out
  · have d : ((e0 : Int) == 0) = false := by simp [h0]
    have h2 := H1.out.set 0 1 rfl (.int .i64 ((p : Int) + (q : Int)))
    have HP := Lib.hid h2
    have HZ := Lib.hid h0
    clear h2 h0
    go_wp2_with fail
    go_ret
    obtain ⟨hu, hq, hrr, hz⟩ := HU.out
    refine ⟨by rw [HR.out.2.2.2.2.2, ← hu, ← hz]; rfl, ?_⟩
    rw [HR.out.2.2.2.1, HR.out.2.2.2.2.1, if_neg HZ.out, ← hq]
    exact HP.out
def PtPost (w0 : World) (L : List (Nat × TypeId × Array Value)) (x : Nat) (A : Option Addr) (n c : Nat) (l : List Nat) (k : Nat) (e : Ending) (w' : World) : Prop :=
  e = .returned (.agg #[.int .i64 (zag (rdVal l k)), .int .i64 (zag (rdVal l (k + 1))), .int .i64 (zag (rdVal l (k + 1 + 1)))]) ∧ Own w0 ((x, 50, #[.slice A n c, .int .i64 ((rdAt l (k + 1 + 1 + 1)).1 : Nat), .int .i64 ((rdAt l (k + 1 + 1 + 1)).2 : Nat)]) :: L) w'
/-- The world under another name, at a function's end. -/
theorem bodyPost_gen2 {P : Program} {f : Func} {post : Ending → World → Prop} {ex : Exit} {a : Act} {w : World} (S : World → Prop) (hS : S w) (h : ∀ w, S w → bodyPost P f post ex a w) : bodyPost P f post ex a w := h w hS
set_option maxRecDepth 100000 in
set_option maxHeartbeats 4000000 in
theorem point_any (w0 w : World) (L : List (Nat × TypeId × Array Value)) (x : Nat) (A : Option Addr) (n c : Nat) (l : List Nat) (k : Nat) (hr : RdIn w0 A n c l)
    (hS : Own w0 ((x, 50, #[.slice A n c, .int .i64 ((rdAt l k).1 : Nat), .int .i64 ((rdAt l k).2 : Nat)]) :: L) w) :
    Calls Tryd.prog 15 #[.pointer (some ⟨x, 0, none⟩)] w (PtPost w0 L x A n c l k) := by
  obtain ⟨y, hy⟩ : ∃ y, y = w.heap.size := ⟨_, rfl⟩
  have h0 := hS.alloc hy 26 #[.int .i64 0, .int .i64 0, .int .i64 0]
  have HR := Lib.hid (And.intro hr (And.intro hy h0))
  clear hr hS hy h0
  go_enter Tryd.func15, Tryd.ntmps15
  go_wp2_with fail
  refine (int__any w0 _ (L ++ [(y, 26, #[.int .i64 0, .int .i64 0, .int .i64 0])]) x A n c l k HR.out.1 (show Own w0 ((x, 50, #[.slice A n c, .int .i64 ((rdAt l k).1 : Nat), .int .i64 ((rdAt l k).2 : Nat)]) :: (L ++ [(y, 26, #[.int .i64 0, .int .i64 0, .int .i64 0])])) _ from HR.out.2.2)).mono ?_
  rintro e w1 ⟨rfl, h1⟩
  have H1 := Lib.hid h1
  clear h1
  go_wp2_with fail
  refine (int__any w0 _ (L ++ [(y, 26, #[.int .i64 0, .int .i64 0, .int .i64 0])]) x A n c l (k + 1) HR.out.1 H1.out).mono ?_
  rintro e w2 ⟨rfl, h2⟩
  have H2 := Lib.hid h2
  clear h2
  go_wp2_with fail
  refine (int__any w0 _ (L ++ [(y, 26, #[.int .i64 0, .int .i64 0, .int .i64 0])]) x A n c l (k + 1 + 1) HR.out.1 H2.out).mono ?_
  rintro e w3 ⟨rfl, h3⟩
  rw [← HR.out.2.1]
  have hf : (((x, 50, #[.slice A n c, .int .i64 ((rdAt l (k + 1 + 1 + 1)).1 : Nat), .int .i64 ((rdAt l (k + 1 + 1 + 1)).2 : Nat)]) :: L) ++ [(y, 26, #[.int .i64 0, .int .i64 0, .int .i64 0])])[L.length + 1]? = some (y, 26, #[.int .i64 0, .int .i64 0, .int .i64 0]) := by simp
  have h4 := Own.front (L := ((x, 50, #[.slice A n c, .int .i64 ((rdAt l (k + 1 + 1 + 1)).1 : Nat), .int .i64 ((rdAt l (k + 1 + 1 + 1)).2 : Nat)]) :: L) ++ [(y, 26, #[.int .i64 0, .int .i64 0, .int .i64 0])]) h3 (L.length + 1) hf
  obtain ⟨t, ht⟩ : ∃ t, t = zag (rdVal l k) := ⟨_, rfl⟩
  obtain ⟨v, hv⟩ : ∃ v, v = zag (rdVal l (k + 1)) := ⟨_, rfl⟩
  obtain ⟨s, hs⟩ : ∃ s, s = zag (rdVal l (k + 1 + 1)) := ⟨_, rfl⟩
  rw [← ht, ← hv, ← hs]
  have hst := @wpList_store_blk Tryd.prog _ _ _ _ (h4.get 0 rfl) 26 0 3 [.int .i64 t, .int .i64 v, .int .i64 s] rfl (Nat.le_of_ble_eq_true rfl) (by kernel_rfl) (List.all_eq_true.1 rfl)
  have h5 := (OwnR.of (n := 3) h4 rfl).put [.int .i64 t, .int .i64 v, .int .i64 s] rfl
  rw [show List.eraseIdx (((x, 50, #[.slice A n c, .int .i64 ((rdAt l (k + 1 + 1 + 1)).1 : Nat), .int .i64 ((rdAt l (k + 1 + 1 + 1)).2 : Nat)]) :: L) ++ [(y, 26, #[.int .i64 0, .int .i64 0, .int .i64 0])]) (L.length + 1) = (x, 50, #[.slice A n c, .int .i64 ((rdAt l (k + 1 + 1 + 1)).1 : Nat), .int .i64 ((rdAt l (k + 1 + 1 + 1)).2 : Nat)]) :: L by
    rw [show L.length + 1 = (((x, 50, #[.slice A n c, .int .i64 ((rdAt l (k + 1 + 1 + 1)).1 : Nat), .int .i64 ((rdAt l (k + 1 + 1 + 1)).2 : Nat)]) :: L)).length by simp, List.eraseIdx_append_of_length_le (Nat.le_refl _)]
    simp] at h5
  have H5 := Lib.hid h5
  have HV := Lib.hid (And.intro ht (And.intro hv hs))
  clear h3 h4 h5 hf ht hv hs
  go_wp2_with (refine hst rfl _ _ rfl rfl rfl ?_)
  refine bodyPost_gen2 (Own w0 ((y, 26, #[.int .i64 t, .int .i64 v, .int .i64 s]) :: (x, 50, #[.slice A n c, .int .i64 ((rdAt l (k + 1 + 1 + 1)).1 : Nat), .int .i64 ((rdAt l (k + 1 + 1 + 1)).2 : Nat)]) :: L)) H5.out ?_
  intro w9 hS9
  exact bodyPost_ret (v := .agg #[.int .i64 t, .int .i64 v, .int .i64 s]) (results_blk1 (P := Tryd.prog) Tryd.results15 rfl (hS9.get 0 rfl) 3 [.int .i64 t, .int .i64 v, .int .i64 s] _ Tryd.underlying26 rfl rfl (by kernel_rfl) (fun j _ => by simp)) rfl ⟨by rw [HV.out.1, HV.out.2.1, HV.out.2.2], hS9.sub (List.sublist_cons_self _ _)⟩
end Go.Proofs.YthhgnngpaagagaaDoor
