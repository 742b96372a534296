/-
  The walk of the law WaterRises. (Printed by mk.py.)
-/
import Derived.Test.YtgceeihdmhghiaaWaterPl
import Derived.Test.YtgceeihdmhghiaaReg
import Derived.Deep.DeepCutAuto
import Derived.Deep.LoopGhost
namespace Go.Proofs.Ytgceeihdmhghiaa
open Go.RowKit
set_option linter.unusedVariables false
set_option linter.unusedSimpArgs false
theorem intElem : Elem1 Try.prog 30 3 (.int .i64 0) 8 := Elem1.mk' Try.underlying30 rfl (by kernel_rfl)
theorem sl_one' (w : World) (t : TypeId) (u : Value) : Sl (w.alloc (.cells #[u] t)) (fun k => k < (w.alloc (.cells #[u] t)).heap.size) (some ⟨w.heap.size, 0, none⟩) 1 (fun _ => u) :=
  (sl_one w t u).mono fun k hk => by subst hk; simp
theorem note_one {s s' : Bool} {l g t l' : Int} (w : World) (A : Option Addr) (c : Nat) (hn : noteS s l (fun _ => t) 1 = (s', l')) (hsl : Sl w (fun k => k < w.heap.size) A 1 (fun _ => .int .i64 t)) (hr : rightB s l g = true) (h0 : -1152921504606846976 ≤ t) (h1 : t ≤ 1152921504606846976) :
    Calls Try.prog 14 #[.agg #[.bool s, .int .i64 l, .int .i64 g], .slice A 1 c] w (MarkPost w s' l' g 0) := by
  refine (note_any s l g w A 1 c (fun _ => t) hsl (by omega)).mono ?_
  rintro e w' ⟨he, hb⟩
  rw [hr, if_pos (noteOk_true (fun _ => ⟨h0, h1⟩) 1), hn] at he
  exact ⟨he, hb⟩
theorem mark_blk_far {w w1 : World} {x : Nat} {t : TypeId} {cs : Array Value} (h : Blk w x t cs) (hb : Below w.heap.size w w1) : Blk w1 x t cs := h.below hb h.lt
/-- A mark's cells, and a number's. -/
def MS (y : Nat) (s : Bool) (l g : Int) (b o : Nat) (v : Int) (w : World) : Prop :=
  (w.cell? ⟨y + 1, 0, none⟩ = some (.bool s) ∧ w.cell? ⟨y + 1, 1, none⟩ = some (.int .i64 l) ∧ w.cell? ⟨y + 1, 2, none⟩ = some (.int .i64 g)) ∧ w.cell? ⟨b, o, none⟩ = some (.int .i64 v)
set_option maxRecDepth 100000 in
set_option maxHeartbeats 4000000 in
theorem waterRises_walk (a0 : Int) (a1 : Option Addr) (len1 cap1 : Nat) (z1 : List Int) (a2 : Int) (w : World) (w0 : (Lit.int .i64 a0).wf = true) (w1 : IsRow .i64 w a1 len1 cap1 z1) (w2 : (Lit.int .i64 a2).wf = true) :
    Calls Try.prog 5 #[.int .i64 a0, .slice a1 len1 cap1, .int .i64 a2] w fun e w' => e = .returned (.bool true) ∧ Below w.heap.size w w' := by
  obtain ⟨xs, hxl, hxb, hxs⟩ := w1.ints len1 (Nat.le_refl _)
  have l1 := w1.le
  clear w0 w1 w2 hxb hxl
  obtain ⟨l1a, l1b, -⟩ := l1
  obtain ⟨g, hg⟩ : ∃ g : Nat, g = (a0 % 256).toNat := ⟨_, rfl⟩
  have eg : bits .and .i64 a0 255 = (g : Int) := by rw [and_255, hg]
  have hg5 : g < 256 := by omega
  obtain ⟨f, hf⟩ : ∃ f : Nat → Int, f = fun j => ((xs.getD j 0 % 4096).toNat : Int) := ⟨_, rfl⟩
  have hfa : ∀ j, bits .and .i64 (xs.getD j 0) 4095 = f j := fun j => by rw [and_4095, hf]
  have hf0 : ∀ j, 0 ≤ f j ∧ f j ≤ 4095 := fun j => by rw [hf]; show 0 ≤ ((xs.getD j 0 % 4096).toNat : Int) ∧ ((xs.getD j 0 % 4096).toNat : Int) ≤ 4095; omega
  obtain ⟨x, hx⟩ : ∃ x, x = w.heap.size := ⟨_, rfl⟩
  have HF := Lib.hid (And.intro hxs (And.intro hfa (And.intro hf0 hx)))
  clear hxs hfa hf0 hf hg
  have hr0 : rightB false 0 (g : Int) = true := rightB_mk (by omega) (by omega) (by omega) (by omega) (.inr rfl)
  have HR0 := Lib.hid hr0
  clear hr0
  have hmx : ∀ k, 0 ≤ mxf f k ∧ mxf f k ≤ 4095 := fun k => ⟨mxf_nonneg f k, mxf_le f k 4095 (by omega) (fun j _ => (HF.out.2.2.1 j).2)⟩
  have HMX := Lib.hid hmx
  clear hmx
  by_cases hlen : 200 < len1
  · go_enter Try.func5, Try.ntmps5
    go_wp2_with fail
    clear eg
    refine (new_ok _ _ HR0.out).mono ?_
    rintro e w1 ⟨rfl, hb⟩
    have HB := Lib.hid (hb.alloc hb.size (.cells #[.bool false, .int .i64 0, .int .i64 g] 32))
    clear hb
    go_wp2_with fail
    go_ret
    exact ⟨rfl, HB.out⟩
  · have dl : decide (200 < len1) = false := by simp; omega
    have dl2 : decide ((200 : Int) < (len1 : Int)) = false := by simp; omega
    go_enter Try.func5, Try.ntmps5
    go_wp2_with fail
    clear eg
    refine (new_ok _ _ HR0.out).mono ?_
    rintro e w1 ⟨rfl, hb⟩
    have HB := Lib.hid hb
    clear hb
    go_wp2_with fail
    clear dl dl2
    obtain ⟨y, hy⟩ : ∃ y, y = w1.heap.size := ⟨_, rfl⟩
    have bm : Blk ((w1.alloc (.cells #[.bool false, .int .i64 0, .int .i64 g] 32)).alloc (.cells #[.bool false, .int .i64 0, .int .i64 g] 32)) y 32 #[.bool false, .int .i64 0, .int .i64 g] := by
      rw [hy]; exact (Blk.fresh w1 _ _).alloc _
    have ba : Blk ((w1.alloc (.cells #[.bool false, .int .i64 0, .int .i64 g] 32)).alloc (.cells #[.bool false, .int .i64 0, .int .i64 g] 32)) (y + 1) 32 #[.bool false, .int .i64 0, .int .i64 g] := by
      rw [hy]; simpa using Blk.fresh (w1.alloc (.cells #[.bool false, .int .i64 0, .int .i64 g] 32)) 32 #[.bool false, .int .i64 0, .int .i64 g]
    have hb2 := (HB.out.alloc HB.out.size (.cells #[.bool false, .int .i64 0, .int .i64 g] 32)).alloc (by have := HB.out.size; simp; omega) (.cells #[.bool false, .int .i64 0, .int .i64 g] 32)
    have hyw : w.heap.size ≤ y := by have := HB.out.size; omega
    rw [← hy]
    have H1 := Lib.hid (And.intro bm (And.intro ba hb2))
    clear bm ba hb2 hy
    go_loopw [10, 11, 12] (fun was late i wr => ∃ k : Nat, k ≤ len1 ∧ i = .int .i64 k ∧ was = .int .i64 (wasV f g k) ∧ late = .bool (lateV f g a2 k) ∧ Blk wr y 32 #[.bool false, .int .i64 0, .int .i64 g] ∧ Blk wr (y + 1) 32 #[.bool (decide (0 < k)), .int .i64 (mxf f k), .int .i64 g] ∧ Below w.heap.size w wr)
      (fun _ _ i _ => len1 - (intOf i).toNat)
    case atStart => exact ⟨0, Nat.zero_le _, rfl, rfl, rfl, H1.out.1, H1.out.2.1, H1.out.2.2⟩
    case round =>
      obtain ⟨k, hk, rfl, rfl, rfl, hbm, hba, hbel⟩ := hrel
      by_cases hlt : k < len1
      · obtain ⟨b, off, hA, hD, hc⟩ := (HF.out.1.below hbel (fun _ h _ => h)) (by omega)
        have ck : wr.cell? ⟨b, off + k, none⟩ = some (.int .i64 (xs.getD k 0)) := hc k hlt
        subst hA
        have hblt : b < wr.heap.size := World.block_lt_of_cell? wr _ ck
        have eft := HF.out.2.1 k
        obtain ⟨v, hv⟩ : ∃ v, v = xs.getD k 0 := ⟨_, rfl⟩
        obtain ⟨t, ht⟩ : ∃ t, t = f k := ⟨_, rfl⟩
        rw [← hv] at ck eft
        rw [← ht] at eft
        obtain ⟨s, hs⟩ : ∃ s, s = decide (0 < k) := ⟨_, rfl⟩
        obtain ⟨l, hl⟩ : ∃ l, l = mxf f k := ⟨_, rfl⟩
        rw [← hs, ← hl] at hba
        obtain ⟨wasK, hwas⟩ : ∃ z, z = wasV f g k := ⟨_, rfl⟩
        obtain ⟨lateK, hlate⟩ : ∃ z, z = lateV f g a2 k := ⟨_, rfl⟩
        rw [← hwas, ← hlate]
        have hr : rightB s l g = true := by
          have := HMX.out k
          refine rightB_mk (by omega) (by omega) (by omega) (by omega) ?_
          rw [hs, hl]
          rcases Nat.eq_zero_or_pos k with h | h
          · subst h; exact .inr rfl
          · exact .inl (by simp [h])
        have htr : -1152921504606846976 ≤ t ∧ t ≤ 1152921504606846976 := by have := HF.out.2.2.1 k; rw [← ht] at this; omega
        have hn1 : noteS s l (fun _ => t) 1 = (true, mxf f (k + 1)) := by
          have h1 := noteS_one false 0 f k
          rw [noteS_mx f (fun j => (HF.out.2.2.1 j).1) (k + 1), noteS_mx f (fun j => (HF.out.2.2.1 j).1) k] at h1
          rw [hs, hl, ht]
          rw [h1]
          simp
        have sof : ∀ w', Below wr.heap.size wr w' → MS y s l g b (off + k) v w' := by
          intro w' hb'
          have bb := mark_blk_far hba hb'
          have c0 := bb.cell 0
          have c1 := bb.cell 1
          have c2 := bb.cell 2
          simp at c0 c1 c2
          exact ⟨⟨c0, c1, c2⟩, (hb'.cell (p := ⟨b, off + k, none⟩) hblt).trans ck⟩
        have HK := Lib.hid (And.intro hbm (And.intro hba (And.intro hbel (And.intro hs (And.intro hl (And.intro hwas (And.intro hlate (And.intro hr (And.intro htr hn1)))))))))
        have HS := Lib.hid sof
        clear hbm hba hbel hs hl hwas hlate hr htr hn1 sof hc ht hv ck hblt hD
        have hkl : (k : Int) < (len1 : Int) := by omega
        have hk0 : (0 : Int) ≤ (k : Int) := by omega
        have hkn : ((k : Int)).toNat = k := by omega
        go_upto_region 10 with (fail)
        go_cut [13, 14] (fun s13 s14 wx => s14 = .int .i64 0 ∧ ∃ B : Nat, s13 = .pointer (some ⟨B, 0, none⟩) ∧ Blk wx B 32 #[.bool true, .int .i64 (mxf f (k + 1)), .int .i64 g] ∧ w.heap.size ≤ B ∧ B ≠ y ∧ B ≠ y + 1 ∧ Below wr.heap.size wr wx)
        case first =>
          have b0 : Below wr.heap.size wr wr.drew := ⟨rfl, rfl, rfl, Nat.le_refl _, fun _ _ => rfl⟩
          have hS : (MS y s l g b (off + k) v) (wr.drew) := HS.out _ b0
          refine reg_start (MS y s l g b (off + k) v) (by kernel_rfl) hS ?_
          refine reg_take (i := 0) (v := ?_) rfl (by kernel_rfl) (by kernel_rfl) (by kernel_rfl) (fun _ _ _ h => h) (Or.inl ⟨by kernel_rfl, ?_⟩) hS ?_
          rotate_left
          · (intro w' hSw; obtain ⟨⟨z0, z1, z2⟩, z3⟩ := hSw; go_simp <;> with_reducible rfl)
          try simp only [Act.put, List.setIfInBounds_toArray, List.set_cons_zero, List.set_cons_succ]
          refine reg_take (i := 1) (v := ?_) rfl (by kernel_rfl) (by kernel_rfl) (by kernel_rfl) (fun _ _ _ h => h) (Or.inl ⟨by kernel_rfl, ?_⟩) hS ?_
          rotate_left
          · (intro w' hSw; obtain ⟨⟨z0, z1, z2⟩, z3⟩ := hSw; go_simp <;> with_reducible rfl)
          try simp only [Act.put, List.setIfInBounds_toArray, List.set_cons_zero, List.set_cons_succ]
          refine reg_take (i := 2) (v := ?_) rfl (by kernel_rfl) (by kernel_rfl) (by kernel_rfl) (fun _ _ _ h => h) (Or.inl ⟨by kernel_rfl, ?_⟩) hS ?_
          rotate_left
          · (intro w' hSw; obtain ⟨⟨z0, z1, z2⟩, z3⟩ := hSw; go_simp <;> with_reducible rfl)
          try simp only [Act.put, List.setIfInBounds_toArray, List.set_cons_zero, List.set_cons_succ]
          refine reg_take (i := 3) (v := ?_) rfl (by kernel_rfl) (by kernel_rfl) (by kernel_rfl) (fun _ _ _ h => h) (Or.inl ⟨by kernel_rfl, ?_⟩) hS ?_
          rotate_left
          · (intro w' hSw; obtain ⟨⟨z0, z1, z2⟩, z3⟩ := hSw; go_simp <;> with_reducible rfl)
          try simp only [Act.put, List.setIfInBounds_toArray, List.set_cons_zero, List.set_cons_succ]
          refine reg_take (i := 4) (v := ?_) rfl (by kernel_rfl) (by kernel_rfl) (by kernel_rfl) (fun _ _ _ h => h) (Or.inl ⟨by kernel_rfl, ?_⟩) hS ?_
          rotate_left
          · (intro w' hSw; obtain ⟨⟨z0, z1, z2⟩, z3⟩ := hSw; go_simp <;> with_reducible rfl)
          try simp only [Act.put, List.setIfInBounds_toArray, List.set_cons_zero, List.set_cons_succ]
          refine reg_take (i := 5) (v := ?_) rfl (by kernel_rfl) (by kernel_rfl) (by kernel_rfl) (fun _ _ _ h => h) (Or.inl ⟨by kernel_rfl, ?_⟩) hS ?_
          rotate_left
          · (intro w' hSw; obtain ⟨⟨z0, z1, z2⟩, z3⟩ := hSw; go_simp <;> with_reducible rfl)
          try simp only [Act.put, List.setIfInBounds_toArray, List.set_cons_zero, List.set_cons_succ]
          clear hkn eft
          have HMS : ∀ w', MS y s l g b (off + k) v w' → MS y s l g b (off + k) v w' := fun _ h => h
          have b1 := b0.alloc (Nat.le_refl _) (.cells #[.int .i64 t] 3)
          have b2 := b0.alloc (Nat.le_refl _) (.cells #[.bool false, .int .i64 0, .int .i64 0] 32)
          have b12 := b1.alloc (by show wr.heap.size ≤ (wr.drew.alloc _).heap.size; simp) (.cells #[.bool false, .int .i64 0, .int .i64 0] 32)
          have b21 := b2.alloc (by show wr.heap.size ≤ (wr.drew.alloc _).heap.size; simp) (.cells #[.int .i64 t] 3)
          have HBB := Lib.hid (And.intro b1 (And.intro b2 (And.intro b12 b21)))
          have hyr : y + 1 < wr.heap.size := HK.out.2.1.lt
          have hww : w.heap.size ≤ wr.heap.size := HK.out.2.2.1.size
          clear b1 b2 b12 b21 b0
          obtain ⟨-, -, -, -, -, -, -, hr, htr, hn1⟩ := HK.out
          have HN := Lib.hid (And.intro hr (And.intro htr hn1))
          clear hr htr hn1
          refine reg_two (i := 6) (j := 11) rfl rfl (by kernel_rfl) (fun K hK => ?_) (fun K hK => ?_)
          · have HK := Lib.hid hK
            clear hK
            go_simp
            go_wp2_with fail
            refine HK.out.to (MS y s l g b (off + k) v) (HMS) (HS.out _ HBB.out.1) ?_
            clear HK hS
            have hS : (MS y s l g b (off + k) v) (wr.drew.alloc (.cells #[.int .i64 t] 3)) := HS.out _ HBB.out.1
            try simp only [Act.put, List.setIfInBounds_toArray, List.set_cons_zero, List.set_cons_succ]
            refine reg_two (i := 7) (j := 11) rfl rfl (by kernel_rfl) (fun K hK => ?_) (fun K hK => ?_)
            · have HK := Lib.hid hK
              clear hK
              go_simp
              refine (note_one (wr.drew.alloc (.cells #[.int .i64 t] 3)) _ _ HN.out.2.2 (sl_one' wr.drew _ _) HN.out.1 HN.out.2.1.1 HN.out.2.1.2).mono ?_
              rintro e wb ⟨rfl, hb⟩
              have hbb : Below wr.heap.size wr wb := HBB.out.1.trans (hb.mono (by simp <;> omega))
              have HW := Lib.hid hbb
              clear hb hbb
              go_wp2_with fail
              refine HK.out.to (MS y s l g b (off + k) v) (HMS) (HS.out _ HW.out) ?_
              clear HK hS
              have hS : (MS y s l g b (off + k) v) (wb) := HS.out _ HW.out
              try simp only [Act.put, List.setIfInBounds_toArray, List.set_cons_zero, List.set_cons_succ]
              refine reg_take (i := 8) (v := ?_) rfl (by kernel_rfl) (by kernel_rfl) (by kernel_rfl) (fun _ _ _ h => h) (Or.inl ⟨by kernel_rfl, ?_⟩) hS ?_
              rotate_left
              · (intro w' hSw; go_simp <;> with_reducible rfl)
              try simp only [Act.put, List.setIfInBounds_toArray, List.set_cons_zero, List.set_cons_succ]
              refine reg_take (i := 9) (v := ?_) rfl (by kernel_rfl) (by kernel_rfl) (by kernel_rfl) (fun _ _ _ h => h) (Or.inl ⟨by kernel_rfl, ?_⟩) hS ?_
              rotate_left
              · (intro w' hSw; go_simp <;> with_reducible rfl)
              try simp only [Act.put, List.setIfInBounds_toArray, List.set_cons_zero, List.set_cons_succ]
              refine reg_take (i := 10) (v := ?_) rfl (by kernel_rfl) (by kernel_rfl) (by kernel_rfl) (fun _ _ _ h => h) (Or.inl ⟨by kernel_rfl, ?_⟩) hS ?_
              rotate_left
              · (intro w' hSw; go_simp <;> with_reducible rfl)
              try simp only [Act.put, List.setIfInBounds_toArray, List.set_cons_zero, List.set_cons_succ]
              refine reg_call (i := 11) rfl (by kernel_rfl) (fun K hK => ?_)
              have HK := Lib.hid hK
              clear hK
              go_simp
              go_wp2_with fail
              refine HK.out.to (MS y s l g b (off + k) v) (HMS) (HS.out _ (HW.out.alloc HW.out.size (.cells #[.bool false, .int .i64 0, .int .i64 0] 32))) ?_
              clear HK hS
              have hS : (MS y s l g b (off + k) v) (wb.alloc (.cells #[.bool false, .int .i64 0, .int .i64 0] 32)) := HS.out _ (HW.out.alloc HW.out.size (.cells #[.bool false, .int .i64 0, .int .i64 0] 32))
              try simp only [Act.put, List.setIfInBounds_toArray, List.set_cons_zero, List.set_cons_succ]
              refine reg_call (i := 12) rfl (by kernel_rfl) (fun K hK => ?_)
              have HK := Lib.hid hK
              clear hK
              go_simp
              have hfin : Below wr.heap.size wr (wb.alloc (.cells #[.bool true, .int .i64 (mxf f (k + 1)), .int .i64 g] 32)) := HW.out.alloc HW.out.size _
              go_wp2_with fail
              refine HK.out.to (MS y s l g b (off + k) v) (HMS) (HS.out _ hfin) ?_
              clear HK hS
              have hS : (MS y s l g b (off + k) v) (wb.alloc (.cells #[.bool true, .int .i64 (mxf f (k + 1)), .int .i64 g] 32)) := HS.out _ hfin
              try simp only [Act.put, List.setIfInBounds_toArray, List.set_cons_zero, List.set_cons_succ]
              refine reg_take (i := 13) (v := ?_) rfl (by kernel_rfl) (by kernel_rfl) (by kernel_rfl) (fun _ _ _ h => h) (Or.inl ⟨by kernel_rfl, ?_⟩) hS ?_
              rotate_left
              · (intro w' hSw; go_simp <;> with_reducible rfl)
              try simp only [Act.put, List.setIfInBounds_toArray, List.set_cons_zero, List.set_cons_succ]
              refine wpAnyH_done (by kernel_rfl) ?_ _
              try simp only [List.getElem_toArray, List.getElem_cons_succ, List.getElem_cons_zero]
              try simp only [Act.put, List.setIfInBounds_toArray, List.set_cons_zero, List.set_cons_succ]
              go_wp2_with fail
              go_meet
              have := HW.out.size
              exact ⟨rfl, wb.heap.size, rfl, Blk.fresh _ _ _, by omega, by omega, by omega, hfin⟩
            · have HK := Lib.hid hK
              clear hK
              go_simp
              go_wp2_with fail
              refine HK.out.to (MS y s l g b (off + k) v) (HMS) (HS.out _ HBB.out.2.2.1) ?_
              clear HK hS
              have hS : (MS y s l g b (off + k) v) ((wr.drew.alloc (.cells #[.int .i64 t] 3)).alloc (.cells #[.bool false, .int .i64 0, .int .i64 0] 32)) := HS.out _ HBB.out.2.2.1
              try simp only [Act.put, List.setIfInBounds_toArray, List.set_cons_zero, List.set_cons_succ]
              refine reg_call (i := 7) rfl (by kernel_rfl) (fun K hK => ?_)
              have HK := Lib.hid hK
              clear hK
              go_simp
              refine (note_one ((wr.drew.alloc (.cells #[.int .i64 t] 3)).alloc (.cells #[.bool false, .int .i64 0, .int .i64 0] 32)) _ _ HN.out.2.2 ((sl_one' wr.drew _ _).below (((Below.refl _ _).alloc (Nat.le_refl _) _)) (fun k hk _ => hk) |>.mono (fun k hk => by simp at hk ⊢; omega)) HN.out.1 HN.out.2.1.1 HN.out.2.1.2).mono ?_
              rintro e wb ⟨rfl, hb⟩
              have hbb : Below wr.heap.size wr wb := HBB.out.2.2.1.trans (hb.mono (by simp <;> omega))
              have bB : Blk wb (wr.heap.size + 1) 32 #[.bool false, .int .i64 0, .int .i64 0] := by
                have h := (Blk.fresh (wr.drew.alloc (.cells #[.int .i64 t] 3)) 32 #[.bool false, .int .i64 0, .int .i64 0]).below hb (by simp)
                simpa using h
              have fB := bB.frozen
              have c0 := bB.cell 0
              have c1 := bB.cell 1
              have c2 := bB.cell 2
              simp at c0 c1 c2
              have HW := Lib.hid (And.intro hbb bB)
              clear hb hbb bB
              go_wp2_with fail
              refine HK.out.to (MS y s l g b (off + k) v) (HMS) (HS.out _ HW.out.1) ?_
              clear HK hS
              have hS : (MS y s l g b (off + k) v) (wb) := HS.out _ HW.out.1
              try simp only [Act.put, List.setIfInBounds_toArray, List.set_cons_zero, List.set_cons_succ]
              refine reg_take (i := 8) (v := ?_) rfl (by kernel_rfl) (by kernel_rfl) (by kernel_rfl) (fun _ _ _ h => h) (Or.inl ⟨by kernel_rfl, ?_⟩) hS ?_
              rotate_left
              · (intro w' hSw; go_simp <;> with_reducible rfl)
              try simp only [Act.put, List.setIfInBounds_toArray, List.set_cons_zero, List.set_cons_succ]
              refine reg_take (i := 9) (v := ?_) rfl (by kernel_rfl) (by kernel_rfl) (by kernel_rfl) (fun _ _ _ h => h) (Or.inl ⟨by kernel_rfl, ?_⟩) hS ?_
              rotate_left
              · (intro w' hSw; go_simp <;> with_reducible rfl)
              try simp only [Act.put, List.setIfInBounds_toArray, List.set_cons_zero, List.set_cons_succ]
              refine reg_take (i := 10) (v := ?_) rfl (by kernel_rfl) (by kernel_rfl) (by kernel_rfl) (fun _ _ _ h => h) (Or.inl ⟨by kernel_rfl, ?_⟩) hS ?_
              rotate_left
              · (intro w' hSw; go_simp <;> with_reducible rfl)
              try simp only [Act.put, List.setIfInBounds_toArray, List.set_cons_zero, List.set_cons_succ]
              refine reg_call (i := 12) rfl (by kernel_rfl) (fun K hK => ?_)
              have HK := Lib.hid hK
              clear hK
              go_simp
              have hfin := below_set3 (g := wr.heap.size + 1) HW.out.1 (by omega) (.bool true) (.int .i64 (mxf f (k + 1))) (.int .i64 g)
              go_wp2_with fail
              refine HK.out.to (MS y s l g b (off + k) v) (HMS) (HS.out _ hfin) ?_
              clear HK hS
              have hS : (MS y s l g b (off + k) v) (_) := HS.out _ hfin
              try simp only [Act.put, List.setIfInBounds_toArray, List.set_cons_zero, List.set_cons_succ]
              refine reg_take (i := 13) (v := ?_) rfl (by kernel_rfl) (by kernel_rfl) (by kernel_rfl) (fun _ _ _ h => h) (Or.inl ⟨by kernel_rfl, ?_⟩) hS ?_
              rotate_left
              · (intro w' hSw; go_simp <;> with_reducible rfl)
              try simp only [Act.put, List.setIfInBounds_toArray, List.set_cons_zero, List.set_cons_succ]
              refine wpAnyH_done (by kernel_rfl) ?_ _
              try simp only [List.getElem_toArray, List.getElem_cons_succ, List.getElem_cons_zero]
              try simp only [Act.put, List.setIfInBounds_toArray, List.set_cons_zero, List.set_cons_succ]
              go_wp2_with fail
              go_meet
              exact ⟨rfl, wr.heap.size + 1, rfl, HW.out.2.set3 _ _ _, by omega, by omega, by omega, hfin⟩
          · have HK := Lib.hid hK
            clear hK
            go_simp
            go_wp2_with fail
            refine HK.out.to (MS y s l g b (off + k) v) (HMS) (HS.out _ HBB.out.2.1) ?_
            clear HK hS
            have hS : (MS y s l g b (off + k) v) (wr.drew.alloc (.cells #[.bool false, .int .i64 0, .int .i64 0] 32)) := HS.out _ HBB.out.2.1
            try simp only [Act.put, List.setIfInBounds_toArray, List.set_cons_zero, List.set_cons_succ]
            refine reg_call (i := 6) rfl (by kernel_rfl) (fun K hK => ?_)
            have HK := Lib.hid hK
            clear hK
            go_simp
            go_wp2_with fail
            refine HK.out.to (MS y s l g b (off + k) v) (HMS) (HS.out _ HBB.out.2.2.2) ?_
            clear HK hS
            have hS : (MS y s l g b (off + k) v) ((wr.drew.alloc (.cells #[.bool false, .int .i64 0, .int .i64 0] 32)).alloc (.cells #[.int .i64 t] 3)) := HS.out _ HBB.out.2.2.2
            try simp only [Act.put, List.setIfInBounds_toArray, List.set_cons_zero, List.set_cons_succ]
            refine reg_call (i := 7) rfl (by kernel_rfl) (fun K hK => ?_)
            have HK := Lib.hid hK
            clear hK
            go_simp
            refine (note_one ((wr.drew.alloc (.cells #[.bool false, .int .i64 0, .int .i64 0] 32)).alloc (.cells #[.int .i64 t] 3)) _ _ HN.out.2.2 (by have h := sl_one' (wr.drew.alloc (.cells #[.bool false, .int .i64 0, .int .i64 0] 32)) 3 (.int .i64 t); simpa using h) HN.out.1 HN.out.2.1.1 HN.out.2.1.2).mono ?_
            rintro e wb ⟨rfl, hb⟩
            have hbb : Below wr.heap.size wr wb := HBB.out.2.2.2.trans (hb.mono (by simp <;> omega))
            have bB : Blk wb wr.heap.size 32 #[.bool false, .int .i64 0, .int .i64 0] := by
              have h := ((Blk.fresh wr.drew 32 #[.bool false, .int .i64 0, .int .i64 0]).alloc (.cells #[.int .i64 t] 3)).below hb (by simp <;> omega)
              simpa using h
            have fB := bB.frozen
            have c0 := bB.cell 0
            have c1 := bB.cell 1
            have c2 := bB.cell 2
            simp at c0 c1 c2
            have HW := Lib.hid (And.intro hbb bB)
            clear hb hbb bB
            go_wp2_with fail
            refine HK.out.to (MS y s l g b (off + k) v) (HMS) (HS.out _ HW.out.1) ?_
            clear HK hS
            have hS : (MS y s l g b (off + k) v) (wb) := HS.out _ HW.out.1
            try simp only [Act.put, List.setIfInBounds_toArray, List.set_cons_zero, List.set_cons_succ]
            refine reg_take (i := 8) (v := ?_) rfl (by kernel_rfl) (by kernel_rfl) (by kernel_rfl) (fun _ _ _ h => h) (Or.inl ⟨by kernel_rfl, ?_⟩) hS ?_
            rotate_left
            · (intro w' hSw; go_simp <;> with_reducible rfl)
            try simp only [Act.put, List.setIfInBounds_toArray, List.set_cons_zero, List.set_cons_succ]
            refine reg_take (i := 9) (v := ?_) rfl (by kernel_rfl) (by kernel_rfl) (by kernel_rfl) (fun _ _ _ h => h) (Or.inl ⟨by kernel_rfl, ?_⟩) hS ?_
            rotate_left
            · (intro w' hSw; go_simp <;> with_reducible rfl)
            try simp only [Act.put, List.setIfInBounds_toArray, List.set_cons_zero, List.set_cons_succ]
            refine reg_take (i := 10) (v := ?_) rfl (by kernel_rfl) (by kernel_rfl) (by kernel_rfl) (fun _ _ _ h => h) (Or.inl ⟨by kernel_rfl, ?_⟩) hS ?_
            rotate_left
            · (intro w' hSw; go_simp <;> with_reducible rfl)
            try simp only [Act.put, List.setIfInBounds_toArray, List.set_cons_zero, List.set_cons_succ]
            refine reg_call (i := 12) rfl (by kernel_rfl) (fun K hK => ?_)
            have HK := Lib.hid hK
            clear hK
            go_simp
            have hfin := below_set3 (g := wr.heap.size) HW.out.1 (Nat.le_refl _) (.bool true) (.int .i64 (mxf f (k + 1))) (.int .i64 g)
            go_wp2_with fail
            refine HK.out.to (MS y s l g b (off + k) v) (HMS) (HS.out _ hfin) ?_
            clear HK hS
            have hS : (MS y s l g b (off + k) v) (_) := HS.out _ hfin
            try simp only [Act.put, List.setIfInBounds_toArray, List.set_cons_zero, List.set_cons_succ]
            refine reg_take (i := 13) (v := ?_) rfl (by kernel_rfl) (by kernel_rfl) (by kernel_rfl) (fun _ _ _ h => h) (Or.inl ⟨by kernel_rfl, ?_⟩) hS ?_
            rotate_left
            · (intro w' hSw; go_simp <;> with_reducible rfl)
            try simp only [Act.put, List.setIfInBounds_toArray, List.set_cons_zero, List.set_cons_succ]
            refine wpAnyH_done (by kernel_rfl) ?_ _
            try simp only [List.getElem_toArray, List.getElem_cons_succ, List.getElem_cons_zero]
            try simp only [Act.put, List.setIfInBounds_toArray, List.set_cons_zero, List.set_cons_succ]
            go_wp2_with fail
            go_meet
            exact ⟨rfl, wr.heap.size, rfl, HW.out.2.set3 _ _ _, by omega, by omega, by omega, hfin⟩
        case rest =>
          obtain ⟨rfl, B, rfl, hB, hBw, hBy, hBy1, hbx⟩ := hcut
          obtain ⟨L, hL⟩ : ∃ L, L = mxf f (k + 1) := ⟨_, rfl⟩
          rw [← hL] at hB
          have hLr : 0 ≤ L ∧ L ≤ 4095 := by rw [hL]; exact HMX.out (k + 1)
          have hbm' := mark_blk_far HK.out.1 (hbx.mono (Nat.le_refl _))
          have hba' := mark_blk_far HK.out.2.1 (hbx.mono (Nat.le_refl _))
          have hbel' : Below w.heap.size w wc := HK.out.2.2.1.trans (hbx.mono HK.out.2.2.1.size)
          have c0 := hB.cell 0
          have c1 := hB.cell 1
          have c2 := hB.cell 2
          simp at c0 c1 c2
          have hat := atV_ok (s := true) (l := L) (g := g) (rightB_mk (by omega) (by omega) (by omega) (by omega) (.inl rfl)) rfl (by omega)
          obtain ⟨V, hV⟩ : ∃ V, V = L - (g : Int) := ⟨_, rfl⟩
          rw [← hV] at hat
          have hwas : wasK ≤ V := by
            rw [HK.out.2.2.2.2.2.1, hV, hL]
            unfold wasV
            split
            · have := HMX.out (k + 1); omega
            · have : mxf f (k + 1) = max (mxf f k) (f k) := rfl
              omega
          have hln : lateK = true → a2 < V := by
            intro h
            rw [HK.out.2.2.2.2.2.2.1] at h
            unfold lateV at h
            split at h
            · cases h
            · have h1 := of_decide_eq_true h
              have : mxf f (k + 1) = max (mxf f k) (f k) := rfl
              rw [hV, hL]
              omega
          have H5 := Lib.hid (And.intro hB (And.intro hbm' (And.intro hba' (And.intro hbel' (And.intro hat (And.intro hL (And.intro hV (And.intro hwas hln))))))))
          clear hB hbm' hba' hbel' hat hL hV hwas hln hbx
          go_wp2_with fail
          refine (at_any _ _ _ _).mono ?_
          rintro e w2 ⟨rfl, hb2⟩
          rw [H5.out.2.2.2.2.1.1, H5.out.2.2.2.2.1.2]
          have hB2 := mark_blk_far H5.out.1 hb2
          have hbm2 := mark_blk_far H5.out.2.1 hb2
          have hba2 := mark_blk_far H5.out.2.2.1 hb2
          have hbel2 := H5.out.2.2.2.1.trans (hb2.mono H5.out.2.2.2.1.size)
          have e0 := hB2.cell 0
          have e1 := hB2.cell 1
          have e2 := hB2.cell 2
          simp at e0 e1 e2
          have H6 := Lib.hid (And.intro hB2 (And.intro hbm2 (And.intro hba2 hbel2)))
          clear hB2 hbm2 hba2 hbel2 hb2 c0 c1 c2
          go_wp2_with fail
          refine (late_any _ _ _ _ _ _ _ (fun _ => a2) (sl_one' w2 _ _) (by omega)).mono ?_
          rintro e w3 ⟨rfl, hb3⟩
          rw [H5.out.2.2.2.2.1.1, H5.out.2.2.2.2.1.2, late_one]
          have hb3' : Below w2.heap.size w2 w3 := ((Below.refl _ w2).alloc (Nat.le_refl _) _).trans (hb3.mono (by simp))
          have hB3 := mark_blk_far H6.out.1 hb3'
          have hbm3 := mark_blk_far H6.out.2.1 hb3'
          have hba3 := mark_blk_far H6.out.2.2.1 hb3'
          have hbel3 := H6.out.2.2.2.trans (hb3'.mono H6.out.2.2.2.size)
          have g0 := hB3.cell 0
          have g1 := hB3.cell 1
          have g2 := hB3.cell 2
          have fa := hba3.frozen
          have m0 := hba3.cell 0
          have m1 := hba3.cell 1
          have m2 := hba3.cell 2
          simp at g0 g1 g2 m0 m1 m2
          have H7 := Lib.hid (And.intro hbm3 (And.intro hba3 hbel3))
          clear hB3 hbm3 hba3 hbel3 hb3 hb3' e0 e1 e2
          have dw : decide (V < wasK) = false := by have := H5.out.2.2.2.2.2.2.2.1; simp; omega
          have fin : ∀ b : Bool, b = decide (a2 < V) →
              ∃ j : Nat, j ≤ len1 ∧ Value.int .i64 ((k : Int) + 1) = .int .i64 j ∧ Value.int .i64 V = .int .i64 (wasV f g j) ∧ Value.bool b = .bool (lateV f g a2 j) ∧ Blk (((w3.setCell ⟨y + 1, 0, none⟩ (.bool true)).setCell ⟨y + 1, 1, none⟩ (.int .i64 L)).setCell ⟨y + 1, 2, none⟩ (.int .i64 g)) y 32 #[.bool false, .int .i64 0, .int .i64 g] ∧ Blk (((w3.setCell ⟨y + 1, 0, none⟩ (.bool true)).setCell ⟨y + 1, 1, none⟩ (.int .i64 L)).setCell ⟨y + 1, 2, none⟩ (.int .i64 g)) (y + 1) 32 #[.bool (decide (0 < j)), .int .i64 (mxf f j), .int .i64 g] ∧ Below w.heap.size w (((w3.setCell ⟨y + 1, 0, none⟩ (.bool true)).setCell ⟨y + 1, 1, none⟩ (.int .i64 L)).setCell ⟨y + 1, 2, none⟩ (.int .i64 g)) := by
            intro b hb
            obtain ⟨hbm3, hba3, hbel3⟩ := H7.out
            obtain ⟨-, -, -, -, -, hL, hV, -, -⟩ := H5.out
            refine ⟨k + 1, by omega, by go_num, ?_, ?_, ?_, ?_, below_set3 hbel3 (by omega) _ _ _⟩
            · unfold wasV; rw [if_neg (by omega), ← hL, ← hV]
            · unfold lateV; rw [if_neg (by omega), ← hL, ← hV, hb]
            · exact ((hbm3.far (by show y ≠ y + 1; omega) _).far (by show y ≠ y + 1; omega) _).far (by show y ≠ y + 1; omega) _
            · rw [← hL, show decide (0 < k + 1) = true by simp]; exact hba3.set3 _ _ _
          have FIN := Lib.hid fin
          clear fin
          by_cases hnow : a2 < V
          · have dn : decide (a2 < V) = true := by simp [hnow]
            rw [if_pos hnow]
            have DN := Lib.hid dn
            cases lateK
            all_goals
              go_wp2_with fail
              go_roundw
              case rel => exact FIN.out true DN.out.symm
              case measure => simp [intOf]; omega
          · have dn : decide (a2 < V) = false := by simp; omega
            rw [if_neg hnow]
            have DN := Lib.hid dn
            cases lateK with
            | true => exact absurd (H5.out.2.2.2.2.2.2.2.2 rfl) hnow
            | false =>
              go_wp2_with fail
              go_roundw
              case rel => exact FIN.out false DN.out.symm
              case measure => simp [intOf]; omega
      · obtain rfl : k = len1 := by omega
        have HK := Lib.hid (And.intro hbm (And.intro hba hbel))
        clear hbm hba hbel hk hlt
        obtain ⟨wx, rfl⟩ : ∃ wx : World, wx = wr := ⟨_, rfl⟩
        go_wp2_with fail
        go_loopw [18, 19] (fun v i wr => ∃ j : Nat, j ≤ k ∧ i = .int .i64 ((k : Int) - 1 - j) ∧ wr.ownsRow w.heap.size 3 1 v j ((List.range j).map fun q => Value.int .i64 (f (k - 1 - q))) ∧ Blk wr y 32 #[.bool false, .int .i64 0, .int .i64 g] ∧ Blk wr (y + 1) 32 #[.bool (decide (0 < k)), .int .i64 (mxf f k), .int .i64 g] ∧ Below w.heap.size w wr)
          (fun _ i _ => (intOf i + 1).toNat)
        case atStart => exact ⟨0, Nat.zero_le _, by simp, ⟨rfl, .inl ⟨rfl, rfl⟩⟩, HK.out.1, HK.out.2.1, HK.out.2.2⟩
        case round =>
          obtain ⟨j, hj, rfl, hor, hbm, hba, hbel⟩ := hrel
          by_cases hlt : j < k
          · obtain ⟨m, hm⟩ : ∃ m : Nat, (k : Int) - 1 - j = (m : Int) := ⟨k - 1 - j, by omega⟩
            rw [hm]
            obtain ⟨b, off, hA, hD, hc⟩ := (HF.out.1.below hbel (fun _ h _ => h)) (by omega)
            have ck : wr.cell? ⟨b, off + m, none⟩ = some (.int .i64 (xs.getD m 0)) := hc m (by omega)
            subst hA
            have eft := HF.out.2.1 m
            obtain ⟨v, hv⟩ : ∃ v, v = xs.getD m 0 := ⟨_, rfl⟩
            obtain ⟨t, ht⟩ : ∃ t, t = f m := ⟨_, rfl⟩
            rw [← hv] at ck eft
            rw [← ht] at eft
            have hmk : m < k := by omega
            have HJ := Lib.hid (And.intro hor (And.intro hbm (And.intro hba (And.intro hbel (And.intro ht hm)))))
            clear hor hbm hba hbel ht hm hc hv hD
            go_wp2_with (at_builtin; refine wpList_append_sl (f := fun _ => .int .i64 t) (D := fun k => k = wr.heap.size) (base := w.heap.size) (n := j) (xs := (List.range j).map fun q => Value.int .i64 (f (k - 1 - q))) intElem rfl (.tmp 98) (.tmp 104) rfl rfl rfl ?hown ?hsl ?h1 ?h63 ?hby ?hbase ?_)
            case hown => exact HJ.out.1.alloc _
            case hsl => exact sl_one _ _ _
            case h1 => intro j _; rfl
            case h63 => unfold maxLen; omega
            case hby => omega
            case hbase => have := HJ.out.2.2.2.1.size; simp; omega
            intro v1 w4 hown1 hg1 hat1
            obtain ⟨hor, hbm, hba, hbel, ht, hm⟩ := HJ.out
            have hbm1 : Blk w4 y 32 #[.bool false, .int .i64 0, .int .i64 g] := (hg1.block y (hbm.alloc _).lt (fun e => own_ne hor hbm (by decide) e.symm)).trans (hbm.alloc _)
            have hba1 : Blk w4 (y + 1) 32 #[.bool (decide (0 < k)), .int .i64 (mxf f k), .int .i64 g] := (hg1.block (y + 1) (hba.alloc _).lt (fun e => own_ne hor hba (by decide) e.symm)).trans (hba.alloc _)
            have hb1 : Below w.heap.size w w4 := (hbel.alloc hbel.size _).grown hg1 (by have := hbel.size; simp; omega) (fun q hq => (hor.lt q hq).1)
            have H8 := Lib.hid (And.intro hown1 (And.intro hbm1 (And.intro hba1 (And.intro hb1 (And.intro ht hm)))))
            clear hown1 hg1 hat1 hbm1 hba1 hb1 hor hbm hba hbel ht hm ck eft
            go_wp2_with fail
            go_roundw
            case rel =>
              obtain ⟨h1, h2, h3, h4, ht, hm⟩ := H8.out
              refine ⟨j + 1, by omega, ?_, ?_, h2, h3, h4⟩
              · congr 1; omega
              · rw [List.range_succ, List.map_append]
                have e : k - 1 - j = m := by omega
                show w4.ownsRow w.heap.size 3 1 v1 (j + 1) (_ ++ [Value.int .i64 (f (k - 1 - j))])
                rw [e, ← ht]
                exact h1
            case measure => simp [intOf]
          · obtain rfl : j = k := by omega
            have e1 : (j : Int) - 1 - j = -1 := by omega
            rw [e1]
            obtain ⟨A9, c9, hv9, -, -⟩ := own_form hor
            subst hv9
            have hsl : Sl wr (fun k => k < wr.heap.size) A9 j (fun q => .int .i64 (f (j - 1 - q))) := by
              refine (Sl.of_own hor ?_).mono (fun k hk => (hor.lt k hk).2)
              intro q u hu
              rw [List.getElem?_map] at hu
              rcases Nat.lt_or_ge q j with hq | hq
              · rw [List.getElem?_range hq] at hu
                simpa using hu.symm
              · rw [List.getElem?_eq_none (by simpa using hq)] at hu
                cases hu
            have m0 := hbm.cell 0
            have m1 := hbm.cell 1
            have m2 := hbm.cell 2
            simp at m0 m1 m2
            have HJ := Lib.hid (And.intro hsl (And.intro hba hbel))
            clear hor hbm hba hbel hj hlt e1 hsl
            go_wp2_with fail
            refine (note_any _ _ _ _ _ _ _ (fun q => f (j - 1 - q)) HJ.out.1 (by omega)).mono ?_
            rintro e w5 ⟨he, hb5⟩
            have hn := noteS_mx (fun q => f (j - 1 - q)) (fun q => (HF.out.2.2.1 _).1) j
            rw [mxf_rev] at hn
            rw [HR0.out, if_pos (noteOk_true (fun q => by have := HF.out.2.2.1 (j - 1 - q); omega) j), hn] at he
            subst he
            have hba5 := mark_blk_far HJ.out.2.1 hb5
            have hbel5 := HJ.out.2.2.trans (hb5.mono HJ.out.2.2.size)
            have n0 := hba5.cell 0
            have n1 := hba5.cell 1
            have n2 := hba5.cell 2
            simp at n0 n1 n2
            have n0' : w5.cell? ⟨y + 1, 0, none⟩ = some (.bool (decide (0 < j))) := by simpa using hba5.cell 0
            have hy5 : y + 1 < w5.heap.size := hba5.lt
            have H9 := Lib.hid hbel5
            clear hb5 hn hba5 hbel5 m0 m1 m2
            obtain ⟨L, hL⟩ : ∃ L, L = mxf f j := ⟨_, rfl⟩
            rw [← hL] at n1
            rw [← hL]
            clear hL
            rcases Nat.eq_zero_or_pos j with hj0 | hj0
            · subst hj0
              rw [show decide (0 < 0) = false from rfl]
              rw [show decide (0 < 0) = false from rfl] at n0'
              clear n0
              rw [show ((0 : Nat) : Int) = 0 from rfl]
              go_wp2_with fail
              go_ret
              exact ⟨rfl, H9.out.alloc H9.out.size _⟩
            · have d : decide (0 < j) = true := by simp [hj0]
              rw [d]
              rw [d] at n0'
              clear n0 d
              have d2 : decide ((0 : Int) < (j : Int)) = true := by simp; omega
              have d3 : (0 < j) = True := by simp [hj0]
              clear d3
              go_wp2_with fail
              go_ret
              exact ⟨rfl, H9.out.alloc H9.out.size _⟩
end Go.Proofs.Ytgceeihdmhghiaa
