/-
  The contracts of tidemillref05's rest and Decode. (Printed by mk.py.)
-/
import Derived.Test.YtgphdigcilbnlaaDeltaOneW
import Derived.Test.YtgphdigcilbnlaaDeltaRE
import Derived.Deep.DeepCutAuto
import Derived.Deep.CutBlock
import Derived.StillTailTactics
namespace Go.Proofs.Ytgphdigcilbnlaa
open Go.RowKit
set_option linter.unusedVariables false
set_option linter.unusedSimpArgs false
def restE (bs : List Nat) (en p : Nat) : Int := if endR bs en p = true then 0 else 11
set_option maxRecDepth 100000 in
set_option maxHeartbeats 1600000 in
theorem rest_any (w : World) (r : Nat) (D : Nat → Prop) (bs : List Nat) (p en : Nat) (h : RRd w r D bs p en) :
    Calls Try.prog 51 #[.pointer (some ⟨r, 0, none⟩)] w fun e w' => e = .returned (.int .i64 (restE bs en p)) ∧ Keeps (fun k => k = r) w w' := by
  have hle := h.le
  have hsm := h.small
  have hen := h.en_le
  obtain ⟨A, c, hb, -⟩ := h.blk
  have c1 := hb.cell 1
  have c2 := hb.cell 2
  simp at c1 c2
  have HH := Lib.hid h
  clear h hb
  obtain ⟨n, hn⟩ : ∃ n : Nat, n = en - p := ⟨_, rfl⟩
  have hni : (en : Int) - p = (n : Int) := by omega
  have hnw : IntKind.i64.wrap ((en : Int) - p) = (n : Int) := by rw [hni]; exact IntWalk.i64_in _ (by omega)
  have hni2 : IntKind.i64.wrap (n : Int) = (n : Int) := IntWalk.i64_in _ (by omega)
  have HN := Lib.hid (And.intro hn hle)
  clear hn hle hsm hen
  by_cases h8 : n < 8
  · have d8 : decide ((8 : Int) ≤ (n : Int)) = false := by simp; omega
    go_enter Try.func51, Try.ntmps51
    go_wp2_with fail
    go_quiet (fail)
    go_wp2_with fail
    obtain ⟨wq, hwq⟩ : ∃ wq, wq = w.drewN nq := ⟨_, rfl⟩
    have hrq : RRd wq r D bs p en := by rw [hwq]; exact HH.out.drewN nq
    have kq : Keeps (fun k => k = r) w wq := by rw [hwq]; exact (Keeps.refl _ w).drewN nq
    rw [← hwq]
    clear hwq c1 c2
    obtain ⟨A', c', hbq, -⟩ := hrq.blk
    have c1 := hbq.cell 1
    have c2 := hbq.cell 2
    simp at c1 c2
    have HQ := Lib.hid (And.intro hrq kq)
    clear hbq hrq kq
    have hS : (fun _ : World => True) (wq.drew) := trivial
    refine reg_start (fun _ : World => True) (by kernel_rfl) hS ?_
    refine reg_take (i := 0) (v := ?_) rfl (by kernel_rfl) (by kernel_rfl) (by kernel_rfl) (fun _ _ _ h => h) (Or.inl ⟨by kernel_rfl, ?_⟩) hS ?_
    rotate_left
    · (intro w' hSw; go_simp <;> with_reducible rfl)
    try simp only [Act.put, List.setIfInBounds_toArray, List.set_cons_zero, List.set_cons_succ]
    refine reg_take (i := 1) (v := ?_) rfl (by kernel_rfl) (by kernel_rfl) (by kernel_rfl) (fun _ _ _ h => h) (Or.inl ⟨by kernel_rfl, ?_⟩) hS ?_
    rotate_left
    · (intro w' hSw; go_simp <;> with_reducible rfl)
    try simp only [Act.put, List.setIfInBounds_toArray, List.set_cons_zero, List.set_cons_succ]
    refine reg_take (i := 2) (v := ?_) rfl (by kernel_rfl) (by kernel_rfl) (by kernel_rfl) (fun _ _ _ h => h) (Or.inl ⟨by kernel_rfl, ?_⟩) hS ?_
    rotate_left
    · (intro w' hSw; go_simp <;> with_reducible rfl)
    try simp only [Act.put, List.setIfInBounds_toArray, List.set_cons_zero, List.set_cons_succ]
    refine reg_take (i := 3) (v := ?_) rfl (by kernel_rfl) (by kernel_rfl) (by kernel_rfl) (fun _ _ _ h => h) (Or.inl ⟨by kernel_rfl, ?_⟩) hS ?_
    rotate_left
    · (intro w' hSw; go_simp <;> with_reducible rfl)
    try simp only [Act.put, List.setIfInBounds_toArray, List.set_cons_zero, List.set_cons_succ]
    refine reg_take (i := 5) (v := ?_) rfl (by kernel_rfl) (by kernel_rfl) (by kernel_rfl) (fun _ _ _ h => h) (Or.inl ⟨by kernel_rfl, ?_⟩) hS ?_
    rotate_left
    · (intro w' hSw; go_simp <;> with_reducible rfl)
    try simp only [Act.put, List.setIfInBounds_toArray, List.set_cons_zero, List.set_cons_succ]
    refine reg_take (i := 6) (v := ?_) rfl (by kernel_rfl) (by kernel_rfl) (by kernel_rfl) (fun _ _ _ h => h) (Or.inl ⟨by kernel_rfl, ?_⟩) hS ?_
    rotate_left
    · (intro w' hSw; go_simp <;> with_reducible rfl)
    try simp only [Act.put, List.setIfInBounds_toArray, List.set_cons_zero, List.set_cons_succ]
    refine reg_take (i := 7) (v := ?_) rfl (by kernel_rfl) (by kernel_rfl) (by kernel_rfl) (fun _ _ _ h => h) (Or.inl ⟨by kernel_rfl, ?_⟩) hS ?_
    rotate_left
    · (intro w' hSw; go_simp <;> with_reducible rfl)
    try simp only [Act.put, List.setIfInBounds_toArray, List.set_cons_zero, List.set_cons_succ]
    refine reg_two (i := 4) (j := 8) rfl rfl (by kernel_rfl) (fun K hK => ?_) (fun K hK => ?_)
    · have HK := Lib.hid hK
      clear hK
      go_simp
      go_wp2_with fail
      refine HK.out.to (fun _ : World => True) (fun _ h => h) (trivial) ?_
      clear HK hS
      have hS : (fun _ : World => True) (wq.drew) := trivial
      try simp only [Act.put, List.setIfInBounds_toArray, List.set_cons_zero, List.set_cons_succ]
      refine reg_call (i := 8) rfl (by kernel_rfl) (fun K hK => ?_)
      have HK := Lib.hid hK
      clear hK
      go_simp
      go_wp2_with fail
      refine HK.out.to (fun _ : World => True) (fun _ h => h) (trivial) ?_
      clear HK hS
      have hS : (fun _ : World => True) (wq.drew) := trivial
      try simp only [Act.put, List.setIfInBounds_toArray, List.set_cons_zero, List.set_cons_succ]
      refine reg_take (i := 9) (v := ?_) rfl (by kernel_rfl) (by kernel_rfl) (by kernel_rfl) (fun _ _ _ h => h) (Or.inl ⟨by kernel_rfl, ?_⟩) hS ?_
      rotate_left
      · (intro w' hSw; go_simp <;> with_reducible rfl)
      try simp only [Act.put, List.setIfInBounds_toArray, List.set_cons_zero, List.set_cons_succ]
      clear c1 c2 hnw
      refine reg_call (i := 10) rfl (by kernel_rfl) (fun K hK => ?_)
      have HK := Lib.hid hK
      clear hK
      go_simp
      refine (rget_any wq.drew _ _ _ _ _ _ (HQ.out.1.drewN 1)).mono ?_
      rintro e w2 ⟨rfl, hr2, hk2⟩
      obtain ⟨g1, g2, g3⟩ := get_some bs p en n (by obtain ⟨h1, h2⟩ := HN.out; omega) (by omega)
      have hk2' : Keeps (fun k => k = r) w w2 := Keeps.trans' HQ.out.2.drew hk2
      have H2 := Lib.hid hk2'
      obtain ⟨z, hzz⟩ : ∃ z, z = gets bs p n := ⟨_, rfl⟩
      rw [← hzz] at g1
      rw [g1, g2]
      have hmn : min n 64 = n := by omega
      have H3 := Lib.hid (And.intro hzz hmn)
      clear hr2 hk2 hk2' g1 g2 g3 hzz hmn hni hni2
      go_wp2_with fail
      refine HK.out.to (fun _ : World => True) (fun _ h => h) (trivial) ?_
      clear HK hS
      have hS : (fun _ : World => True) (w2) := trivial
      try simp only [Act.put, List.setIfInBounds_toArray, List.set_cons_zero, List.set_cons_succ]
      refine reg_take (i := 11) (v := ?_) rfl (by kernel_rfl) (by kernel_rfl) (by kernel_rfl) (fun _ _ _ h => h) (Or.inl ⟨by kernel_rfl, ?_⟩) hS ?_
      rotate_left
      · (intro w' hSw; go_simp <;> with_reducible rfl)
      try simp only [Act.put, List.setIfInBounds_toArray, List.set_cons_zero, List.set_cons_succ]
      refine reg_take (i := 12) (v := ?_) rfl (by kernel_rfl) (by kernel_rfl) (by kernel_rfl) (fun _ _ _ h => h) (Or.inl ⟨by kernel_rfl, ?_⟩) hS ?_
      rotate_left
      · (intro w' hSw; go_simp <;> with_reducible rfl)
      try simp only [Act.put, List.setIfInBounds_toArray, List.set_cons_zero, List.set_cons_succ]
      refine reg_take (i := 13) (v := ?_) rfl (by kernel_rfl) (by kernel_rfl) (by kernel_rfl) (fun _ _ _ h => h) (Or.inl ⟨by kernel_rfl, ?_⟩) hS ?_
      rotate_left
      · (intro w' hSw; go_simp <;> with_reducible rfl)
      try simp only [Act.put, List.setIfInBounds_toArray, List.set_cons_zero, List.set_cons_succ]
      refine reg_take (i := 14) (v := ?_) rfl (by kernel_rfl) (by kernel_rfl) (by kernel_rfl) (fun _ _ _ h => h) (Or.inl ⟨by kernel_rfl, ?_⟩) hS ?_
      rotate_left
      · (intro w' hSw; go_simp <;> with_reducible rfl)
      try simp only [Act.put, List.setIfInBounds_toArray, List.set_cons_zero, List.set_cons_succ]
      refine reg_take (i := 15) (v := ?_) rfl (by kernel_rfl) (by kernel_rfl) (by kernel_rfl) (fun _ _ _ h => h) (Or.inl ⟨by kernel_rfl, ?_⟩) hS ?_
      rotate_left
      · (intro w' hSw; go_simp <;> with_reducible rfl)
      try simp only [Act.put, List.setIfInBounds_toArray, List.set_cons_zero, List.set_cons_succ]
      refine wpAnyH_done (by kernel_rfl) ?_ _
      by_cases h0 : z = 0
      · subst h0
        rw [show ((0 : Nat) : Int) = 0 from rfl]
        go_wp2_with fail
        go_ret
        refine ⟨ret_intz ?_, H2.out⟩
        unfold restE endR
        rw [← HN.out.1, H3.out.2, ← H3.out.1]
        simp [h8]
      · have e1 : ((z : Int) != 0) = true := by simp; omega
        have e2 : ((z : Int) == 0) = false := by simp; omega
        go_wp2_with fail
        go_ret
        refine ⟨ret_intz ?_, H2.out⟩
        unfold restE endR
        rw [← HN.out.1, H3.out.2, ← H3.out.1]
        simp [h8, h0]
    · have HK := Lib.hid hK
      clear hK
      go_simp
      go_wp2_with fail
      refine HK.out.to (fun _ : World => True) (fun _ h => h) (trivial) ?_
      clear HK hS
      have hS : (fun _ : World => True) (wq.drew) := trivial
      try simp only [Act.put, List.setIfInBounds_toArray, List.set_cons_zero, List.set_cons_succ]
      refine reg_call (i := 4) rfl (by kernel_rfl) (fun K hK => ?_)
      have HK := Lib.hid hK
      clear hK
      go_simp
      go_wp2_with fail
      refine HK.out.to (fun _ : World => True) (fun _ h => h) (trivial) ?_
      clear HK hS
      have hS : (fun _ : World => True) (wq.drew) := trivial
      try simp only [Act.put, List.setIfInBounds_toArray, List.set_cons_zero, List.set_cons_succ]
      refine reg_take (i := 9) (v := ?_) rfl (by kernel_rfl) (by kernel_rfl) (by kernel_rfl) (fun _ _ _ h => h) (Or.inl ⟨by kernel_rfl, ?_⟩) hS ?_
      rotate_left
      · (intro w' hSw; go_simp <;> with_reducible rfl)
      try simp only [Act.put, List.setIfInBounds_toArray, List.set_cons_zero, List.set_cons_succ]
      clear c1 c2 hnw
      refine reg_call (i := 10) rfl (by kernel_rfl) (fun K hK => ?_)
      have HK := Lib.hid hK
      clear hK
      go_simp
      refine (rget_any wq.drew _ _ _ _ _ _ (HQ.out.1.drewN 1)).mono ?_
      rintro e w2 ⟨rfl, hr2, hk2⟩
      obtain ⟨g1, g2, g3⟩ := get_some bs p en n (by obtain ⟨h1, h2⟩ := HN.out; omega) (by omega)
      have hk2' : Keeps (fun k => k = r) w w2 := Keeps.trans' HQ.out.2.drew hk2
      have H2 := Lib.hid hk2'
      obtain ⟨z, hzz⟩ : ∃ z, z = gets bs p n := ⟨_, rfl⟩
      rw [← hzz] at g1
      rw [g1, g2]
      have hmn : min n 64 = n := by omega
      have H3 := Lib.hid (And.intro hzz hmn)
      clear hr2 hk2 hk2' g1 g2 g3 hzz hmn hni hni2
      go_wp2_with fail
      refine HK.out.to (fun _ : World => True) (fun _ h => h) (trivial) ?_
      clear HK hS
      have hS : (fun _ : World => True) (w2) := trivial
      try simp only [Act.put, List.setIfInBounds_toArray, List.set_cons_zero, List.set_cons_succ]
      refine reg_take (i := 11) (v := ?_) rfl (by kernel_rfl) (by kernel_rfl) (by kernel_rfl) (fun _ _ _ h => h) (Or.inl ⟨by kernel_rfl, ?_⟩) hS ?_
      rotate_left
      · (intro w' hSw; go_simp <;> with_reducible rfl)
      try simp only [Act.put, List.setIfInBounds_toArray, List.set_cons_zero, List.set_cons_succ]
      refine reg_take (i := 12) (v := ?_) rfl (by kernel_rfl) (by kernel_rfl) (by kernel_rfl) (fun _ _ _ h => h) (Or.inl ⟨by kernel_rfl, ?_⟩) hS ?_
      rotate_left
      · (intro w' hSw; go_simp <;> with_reducible rfl)
      try simp only [Act.put, List.setIfInBounds_toArray, List.set_cons_zero, List.set_cons_succ]
      refine reg_take (i := 13) (v := ?_) rfl (by kernel_rfl) (by kernel_rfl) (by kernel_rfl) (fun _ _ _ h => h) (Or.inl ⟨by kernel_rfl, ?_⟩) hS ?_
      rotate_left
      · (intro w' hSw; go_simp <;> with_reducible rfl)
      try simp only [Act.put, List.setIfInBounds_toArray, List.set_cons_zero, List.set_cons_succ]
      refine reg_take (i := 14) (v := ?_) rfl (by kernel_rfl) (by kernel_rfl) (by kernel_rfl) (fun _ _ _ h => h) (Or.inl ⟨by kernel_rfl, ?_⟩) hS ?_
      rotate_left
      · (intro w' hSw; go_simp <;> with_reducible rfl)
      try simp only [Act.put, List.setIfInBounds_toArray, List.set_cons_zero, List.set_cons_succ]
      refine reg_take (i := 15) (v := ?_) rfl (by kernel_rfl) (by kernel_rfl) (by kernel_rfl) (fun _ _ _ h => h) (Or.inl ⟨by kernel_rfl, ?_⟩) hS ?_
      rotate_left
      · (intro w' hSw; go_simp <;> with_reducible rfl)
      try simp only [Act.put, List.setIfInBounds_toArray, List.set_cons_zero, List.set_cons_succ]
      refine wpAnyH_done (by kernel_rfl) ?_ _
      by_cases h0 : z = 0
      · subst h0
        rw [show ((0 : Nat) : Int) = 0 from rfl]
        go_wp2_with fail
        go_ret
        refine ⟨ret_intz ?_, H2.out⟩
        unfold restE endR
        rw [← HN.out.1, H3.out.2, ← H3.out.1]
        simp [h8]
      · have e1 : ((z : Int) != 0) = true := by simp; omega
        have e2 : ((z : Int) == 0) = false := by simp; omega
        go_wp2_with fail
        go_ret
        refine ⟨ret_intz ?_, H2.out⟩
        unfold restE endR
        rw [← HN.out.1, H3.out.2, ← H3.out.1]
        simp [h8, h0]
  · have d8 : decide ((8 : Int) ≤ (n : Int)) = true := by simp; omega
    go_enter Try.func51, Try.ntmps51
    go_wp2_with fail
    go_quiet (fail)
    go_wp2_with fail
    go_ret
    refine ⟨ret_intz ?_, (Keeps.refl _ w).drewN _⟩
    unfold restE endR
    rw [← HN.out.1]
    simp [h8]
end Go.Proofs.Ytgphdigcilbnlaa
