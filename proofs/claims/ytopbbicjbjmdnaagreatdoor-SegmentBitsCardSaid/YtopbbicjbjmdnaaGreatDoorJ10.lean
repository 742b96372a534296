/-
  Texts of this proof, joined: XorNx, MemK, U64s.
-/
import Derived.Test.YtopbbicjbjmdnaaGreatDoorJ09
import Derived.Test.YtopbbicjbjmdnaaGreatDoorJ01
import Derived.Test.YtopbbicjbjmdnaaGreatDoorJ02
import Derived.Test.YtopbbicjbjmdnaaGreatDoorJ05
namespace Go.Proofs.YtopbbicjbjmdnaaGreatDoor.X
set_option maxRecDepth 100000
open Go.RowKit
set_option linter.unusedVariables false
set_option linter.unusedSimpArgs false
/-- What is other, in the window ahead. -/
def oldX (bs : List Nat) (en : Nat) (o : Option (Nat × Nat)) (q : Nat) : Option (Nat × Option (Nat × Nat) × Nat) := match o with
  | none => none
  | some (l, t) => if q + (64 - l - t) ≤ en then (if gets bs q (64 - l - t) = 0 then none else some (gets bs q (64 - l - t) * 2 ^ t, some (l, t), q + (64 - l - t))) else none
/-- .. in a window of its own, which is read. -/
def newY (bs : List Nat) (en : Nat) (o : Option (Nat × Nat)) (l m q : Nat) : Option (Nat × Option (Nat × Nat) × Nat) :=
  if l + m ≤ 64 then
    if q + m ≤ en then
      if gets bs q m * 2 ^ (64 - l - m) ≠ 0 ∧ lead (gets bs q m * 2 ^ (64 - l - m)) = l ∧ trail (gets bs q m * 2 ^ (64 - l - m)) = 64 - l - m ∧ fits o (gets bs q m * 2 ^ (64 - l - m)) = false
        then some (gets bs q m * 2 ^ (64 - l - m), some (l, 64 - l - m), q + m) else none
    else none
  else none
def newX (bs : List Nat) (en : Nat) (o : Option (Nat × Nat)) (q : Nat) : Option (Nat × Option (Nat × Nat) × Nat) :=
  if q + 6 ≤ en then (if q + 6 + 6 ≤ en then newY bs en o (gets bs q 6) (gets bs (q + 6) 6 + 1) (q + 6 + 6) else none) else none
def nextX (bs : List Nat) (en : Nat) (o : Option (Nat × Nat)) (p : Nat) : Option (Nat × Option (Nat × Nat) × Nat) :=
  if p + 1 ≤ en then
    if gets bs p 1 = 0 then some (0, o, p + 1)
    else if p + 1 + 1 ≤ en then (if gets bs (p + 1) 1 = 0 then oldX bs en o (p + 1 + 1) else newX bs en o (p + 1 + 1))
    else none
  else none
def TNextPost (w : World) (t r : Nat) (D : Nat → Prop) (bs : List Nat) (en : Nat) (N : Option (Nat × Option (Nat × Nat) × Nat)) (e : Ending) (w' : World) : Prop :=
  ∃ (x : Nat) (o' : Option (Nat × Nat)) (er : Int) (p' : Nat), e = .returned (.int .u64 (x : Nat)) ∧ x < 18446744073709551616 ∧ Tk w w' t r D bs en o' er p' ∧ ((er = 0 ∧ N = some (x, o', p')) ∨ ((er = 10 ∨ er = 11) ∧ N = none))
theorem tget_ok {bs : List Nat} {en p n : Nat} (h : p + n ≤ en) : tget bs en 0 p n = (gets bs p n, 0, p + n) := by unfold tget; rw [if_pos rfl, if_pos h]
theorem tget_end {bs : List Nat} {en p n : Nat} (h : ¬ p + n ≤ en) : tget bs en 0 p n = (0, 10, p) := by unfold tget; rw [if_pos rfl, if_neg h]
theorem tget_err {bs : List Nat} {en p n : Nat} {e : Int} (h : ¬ e = 0) : tget bs en e p n = (0, e, p) := by unfold tget; rw [if_neg h]
theorem gets_u64 (bs : List Nat) (p n : Nat) (h : n ≤ 64) : gets bs p n < 18446744073709551616 :=
  Nat.lt_of_lt_of_le (gets_lt bs p n) (Nat.le_trans (Nat.pow_le_pow_right (by omega) h) (by decide))
theorem shift_lt {v m t : Nat} (hv : v < 2 ^ m) (h : m + t ≤ 64) : v * 2 ^ t < 18446744073709551616 := by
  have h1 : v * 2 ^ t < 2 ^ m * 2 ^ t := Nat.mul_lt_mul_of_pos_right hv (Nat.two_pow_pos t)
  rw [← Nat.pow_add] at h1
  exact Nat.lt_of_lt_of_le h1 (Nat.le_trans (Nat.pow_le_pow_right (by omega) h) (by decide))
theorem shift_walk {v t x : Nat} (hx : x = v * 2 ^ t) (h : x < 18446744073709551616) : IntKind.u64.wrap ((v : Int) * 2 ^ t) = (x : Int) := by
  have e : (v : Int) * 2 ^ t = ((v * 2 ^ t : Nat) : Int) := by simp
  rw [e, ← hx, IntKind.wrap_u64]
  omega
theorem winC_w (o : Option (Nat × Nat)) : winC o = #[.int .i64 (wl o), .int .i64 (wt o)] := by cases o <;> rfl
/-- What region 4 and region 16 read. -/
def NR (t : Nat) (a b : Int) (w : World) : Prop := w.cell? ⟨t, 1, none⟩ = some (.int .i64 a) ∧ w.cell? ⟨t, 2, none⟩ = some (.int .i64 b)
theorem nr_of {w wr : World} {t r : Nat} {D : Nat → Prop} {bs : List Nat} {en : Nat} {o : Option (Nat × Nat)} {e : Int} {p : Nat} (h : Tk w wr t r D bs en o e p) : NR t (wl o) (wt o) wr := ⟨h.c1, h.c2⟩
def NR2 (t y : Nat) (a b : Int) (l m : Nat) (w : World) : Prop := (w.cell? ⟨t, 1, none⟩ = some (.int .i64 a) ∧ w.cell? ⟨t, 2, none⟩ = some (.int .i64 b)) ∧ w.cell? ⟨y, 0, none⟩ = some (.int .i64 (l : Nat)) ∧ w.cell? ⟨y, 1, none⟩ = some (.int .i64 (m : Nat))
theorem nr2_of {w wr : World} {t r y l m : Nat} {D : Nat → Prop} {bs : List Nat} {en : Nat} {o : Option (Nat × Nat)} {e : Int} {p : Nat} (h : Tk w wr t r D bs en o e p) (hy : Blk wr y 118 #[.int .i64 (l : Nat), .int .i64 (m : Nat)]) : NR2 t y (wl o) (wt o) l m wr :=
  ⟨⟨h.c1, h.c2⟩, by simpa using hy.cell 0, by simpa using hy.cell 1⟩
set_option maxRecDepth 100000 in
set_option maxHeartbeats 4000000 in
theorem tnext_any {w wr : World} {t r : Nat} {D : Nat → Prop} {bs : List Nat} {en : Nat} {o : Option (Nat × Nat)} {p : Nat} (h : Tk w wr t r D bs en o 0 p) (hok : WinOk o) :
    Calls Tryz.prog 90 #[.pointer (some ⟨t, 0, none⟩)] wr (TNextPost w t r D bs en (nextX bs en o p)) := by
  obtain ⟨N, hN⟩ : ∃ N, N = nextX bs en o p := ⟨_, rfl⟩
  rw [← hN]
  have HH := Lib.hid (And.intro h hok)
  clear h hok
  go_enter Tryz.func90, Tryz.ntmps90
  have HN := Lib.hid hN
  clear hN
  go_wp2_with fail
  refine (tget_any HH.out.1 1 (by omega)).mono ?_
  rintro e w1 ⟨rfl, h1⟩
  by_cases q1 : p + 1 ≤ en
  · rw [tget_ok q1] at h1
    rw [tget_ok q1]
    simp only [] at h1
    have hv := gets_lt bs p 1
    obtain ⟨v1, hv1⟩ : ∃ v1, v1 = gets bs p 1 := ⟨_, rfl⟩
    rw [← hv1] at hv
    rw [← hv1]
    rcases (show v1 = 0 ∨ v1 = 1 by omega) with rfl | rfl
    · have hn : N = some (0, o, p + 1) := by rw [HN.out]; unfold nextX; rw [if_pos q1, if_pos hv1.symm]
      have H1 := Lib.hid (And.intro h1 hn)
      clear h1 hn hv hv1 q1
      rw [show ((0 : Nat) : Int) = 0 from rfl]
      go_wp2_with fail
      go_ret
      exact ⟨0, o, 0, p + 1, rfl, by omega, H1.out.1, .inl ⟨rfl, H1.out.2⟩⟩
    · have hn : N = if p + 1 + 1 ≤ en then (if gets bs (p + 1) 1 = 0 then oldX bs en o (p + 1 + 1) else newX bs en o (p + 1 + 1)) else none := by
        rw [HN.out]; unfold nextX; rw [if_pos q1, if_neg (by omega)]
      have H1 := Lib.hid (And.intro h1 hn)
      clear h1 hn hv hv1 q1 HN
      rw [show ((1 : Nat) : Int) = 1 from rfl]
      go_wp2_with fail
      refine (tget_any H1.out.1 1 (by omega)).mono ?_
      rintro e w2 ⟨rfl, h2⟩
      obtain ⟨v2, er, p2, hg2, hcase⟩ : ∃ (v2 : Nat) (er : Int) (p2 : Nat), tget bs en 0 (p + 1) 1 = (v2, er, p2) ∧ ((v2 = 0 ∧ er = 0 ∧ N = oldX bs en o p2) ∨ (v2 = 0 ∧ er = 10 ∧ N = none) ∨ (v2 = 1 ∧ er = 0 ∧ N = newX bs en o p2)) := by
        have hn := H1.out.2
        by_cases q2 : p + 1 + 1 ≤ en
        · rw [if_pos q2] at hn
          refine ⟨_, _, _, tget_ok q2, ?_⟩
          by_cases h0 : gets bs (p + 1) 1 = 0
          · rw [if_pos h0] at hn
            exact .inl ⟨h0, rfl, hn⟩
          · rw [if_neg h0] at hn
            have := gets_lt bs (p + 1) 1
            exact .inr (.inr ⟨by omega, rfl, hn⟩)
        · rw [if_neg q2] at hn
          exact ⟨_, _, _, tget_end q2, .inr (.inl ⟨rfl, rfl, hn⟩)⟩
      rw [hg2] at h2
      rw [hg2]
      simp only [] at h2
      clear hg2 H1
      have H2 := Lib.hid h2
      clear h2
      by_cases hv2 : v2 = 0
      · subst hv2
        have hc2 : (er = 0 ∧ N = oldX bs en o p2) ∨ (er = 10 ∧ N = none) := by
          rcases hcase with ⟨-, h⟩ | ⟨-, h⟩ | ⟨h, -⟩
          · exact .inl h
          · exact .inr h
          · omega
        have HC := Lib.hid hc2
        clear hc2 hcase
        rw [show ((0 : Nat) : Int) = 0 from rfl]
        go_wp2_with fail
        cases o with
        | none =>
          have hS : (NR t (-1) (-1)) (w2.drew) := nr_of H2.out.drew
          refine reg_start (NR t (-1) (-1)) (by kernel_rfl) hS ?_
          refine reg_take (i := 0) (v := ?_) rfl (by kernel_rfl) (by kernel_rfl) (by kernel_rfl) (fun _ _ _ h => h) (Or.inl ⟨by kernel_rfl, ?_⟩) hS ?_
          rotate_left
          · (intro w' hSw; obtain ⟨p1, p2⟩ := hSw; go_simp <;> with_reducible rfl)
          try simp only [List.getElem_toArray, List.getElem_cons_succ, List.getElem_cons_zero, Act.put, List.setIfInBounds_toArray, List.set_cons_zero, List.set_cons_succ]
          refine reg_take (i := 1) (v := ?_) rfl (by kernel_rfl) (by kernel_rfl) (by kernel_rfl) (fun _ _ _ h => h) (Or.inl ⟨by kernel_rfl, ?_⟩) hS ?_
          rotate_left
          · (intro w' hSw; obtain ⟨p1, p2⟩ := hSw; go_simp <;> with_reducible rfl)
          try simp only [List.getElem_toArray, List.getElem_cons_succ, List.getElem_cons_zero, Act.put, List.setIfInBounds_toArray, List.set_cons_zero, List.set_cons_succ]
          refine reg_take (i := 2) (v := ?_) rfl (by kernel_rfl) (by kernel_rfl) (by kernel_rfl) (fun _ _ _ h => h) (Or.inl ⟨by kernel_rfl, ?_⟩) hS ?_
          rotate_left
          · (intro w' hSw; obtain ⟨p1, p2⟩ := hSw; go_simp <;> with_reducible rfl)
          try simp only [List.getElem_toArray, List.getElem_cons_succ, List.getElem_cons_zero, Act.put, List.setIfInBounds_toArray, List.set_cons_zero, List.set_cons_succ]
          refine reg_take (i := 3) (v := ?_) rfl (by kernel_rfl) (by kernel_rfl) (by kernel_rfl) (fun _ _ _ h => h) (Or.inl ⟨by kernel_rfl, ?_⟩) hS ?_
          rotate_left
          · (intro w' hSw; obtain ⟨p1, p2⟩ := hSw; go_simp <;> with_reducible rfl)
          try simp only [List.getElem_toArray, List.getElem_cons_succ, List.getElem_cons_zero, Act.put, List.setIfInBounds_toArray, List.set_cons_zero, List.set_cons_succ]
          refine reg_take (i := 4) (v := ?_) rfl (by kernel_rfl) (by kernel_rfl) (by kernel_rfl) (fun _ _ _ h => h) (Or.inl ⟨by kernel_rfl, ?_⟩) hS ?_
          rotate_left
          · (intro w' hSw; obtain ⟨p1, p2⟩ := hSw; go_simp <;> with_reducible rfl)
          try simp only [List.getElem_toArray, List.getElem_cons_succ, List.getElem_cons_zero, Act.put, List.setIfInBounds_toArray, List.set_cons_zero, List.set_cons_succ]
          refine reg_call (i := 5) rfl (by kernel_rfl) (fun K hK => ?_)
          have HK := Lib.hid hK
          clear hK
          go_simp
          refine (none_any w2.drew).mono ?_
          rintro e w3 ⟨rfl, hb3⟩
          have h3 := H2.out.drew.below hb3
          have H3 := Lib.hid h3
          clear h3 hb3
          go_wp2_with fail
          refine HK.out.to (NR t (-1) (-1)) (fun _ h => h) (nr_of H3.out) ?_
          clear HK hS
          have hS : (NR t (-1) (-1)) (w3) := nr_of H3.out
          try simp only [List.getElem_toArray, List.getElem_cons_succ, List.getElem_cons_zero, Act.put, List.setIfInBounds_toArray, List.set_cons_zero, List.set_cons_succ]
          refine reg_take (i := 6) (v := ?_) rfl (by kernel_rfl) (by kernel_rfl) (by kernel_rfl) (fun _ _ _ h => h) (Or.inl ⟨by kernel_rfl, ?_⟩) hS ?_
          rotate_left
          · (intro w' hSw; go_simp <;> with_reducible rfl)
          try simp only [List.getElem_toArray, List.getElem_cons_succ, List.getElem_cons_zero, Act.put, List.setIfInBounds_toArray, List.set_cons_zero, List.set_cons_succ]
          refine reg_call (i := 7) rfl (by kernel_rfl) (fun K hK => ?_)
          have HK := Lib.hid hK
          clear hK
          go_simp
          refine (twrong_any H3.out true).mono ?_
          rintro e w4 ⟨rfl, h4⟩
          obtain ⟨e4, he4, hn4⟩ : ∃ e4 : Int, (if true = true ∧ er = 0 then (11 : Int) else er) = e4 ∧ ((e4 = 10 ∨ e4 = 11) ∧ N = none) := by
            rcases HC.out with ⟨rfl, h⟩ | ⟨rfl, h⟩
            · exact ⟨11, by simp, .inr rfl, h⟩
            · exact ⟨10, by simp, .inl rfl, h⟩
          rw [he4] at h4
          have H4 := Lib.hid (And.intro h4 hn4)
          have hne : ¬ e4 = 0 := by omega
          have d3 := h4.c3
          clear h4 he4 hn4
          go_wp2_with fail
          refine HK.out.to (NR t (-1) (-1)) (fun _ h => h) (nr_of H4.out.1) ?_
          clear HK hS
          have hS : (NR t (-1) (-1)) (w4) := nr_of H4.out.1
          try simp only [List.getElem_toArray, List.getElem_cons_succ, List.getElem_cons_zero, Act.put, List.setIfInBounds_toArray, List.set_cons_zero, List.set_cons_succ]
          refine wpAnyH_done (by kernel_rfl) ?_ _
          try simp only [List.getElem_toArray, List.getElem_cons_succ, List.getElem_cons_zero]
          try simp only [List.getElem_toArray, List.getElem_cons_succ, List.getElem_cons_zero, Act.put, List.setIfInBounds_toArray, List.set_cons_zero, List.set_cons_succ]
          go_wp2_with fail
          go_ret
          exact ⟨0, none, e4, p2, rfl, by omega, H4.out.1, .inr H4.out.2⟩
        | some lt =>
          obtain ⟨l, tr⟩ := lt
          have hl1 : ¬ ((l : Int) = -1) := by omega
          have hS : (NR t (l : Nat) (tr : Nat)) (w2.drew) := nr_of H2.out.drew
          refine reg_start (NR t (l : Nat) (tr : Nat)) (by kernel_rfl) hS ?_
          refine reg_take (i := 0) (v := ?_) rfl (by kernel_rfl) (by kernel_rfl) (by kernel_rfl) (fun _ _ _ h => h) (Or.inl ⟨by kernel_rfl, ?_⟩) hS ?_
          rotate_left
          · (intro w' hSw; obtain ⟨p1, p2⟩ := hSw; go_simp <;> with_reducible rfl)
          try simp only [List.getElem_toArray, List.getElem_cons_succ, List.getElem_cons_zero, Act.put, List.setIfInBounds_toArray, List.set_cons_zero, List.set_cons_succ]
          refine reg_take (i := 1) (v := ?_) rfl (by kernel_rfl) (by kernel_rfl) (by kernel_rfl) (fun _ _ _ h => h) (Or.inl ⟨by kernel_rfl, ?_⟩) hS ?_
          rotate_left
          · (intro w' hSw; obtain ⟨p1, p2⟩ := hSw; go_simp <;> with_reducible rfl)
          try simp only [List.getElem_toArray, List.getElem_cons_succ, List.getElem_cons_zero, Act.put, List.setIfInBounds_toArray, List.set_cons_zero, List.set_cons_succ]
          refine reg_take (i := 2) (v := ?_) rfl (by kernel_rfl) (by kernel_rfl) (by kernel_rfl) (fun _ _ _ h => h) (Or.inl ⟨by kernel_rfl, ?_⟩) hS ?_
          rotate_left
          · (intro w' hSw; obtain ⟨p1, p2⟩ := hSw; go_simp <;> with_reducible rfl)
          try simp only [List.getElem_toArray, List.getElem_cons_succ, List.getElem_cons_zero, Act.put, List.setIfInBounds_toArray, List.set_cons_zero, List.set_cons_succ]
          refine reg_take (i := 3) (v := ?_) rfl (by kernel_rfl) (by kernel_rfl) (by kernel_rfl) (fun _ _ _ h => h) (Or.inl ⟨by kernel_rfl, ?_⟩) hS ?_
          rotate_left
          · (intro w' hSw; obtain ⟨p1, p2⟩ := hSw; go_simp <;> with_reducible rfl)
          try simp only [List.getElem_toArray, List.getElem_cons_succ, List.getElem_cons_zero, Act.put, List.setIfInBounds_toArray, List.set_cons_zero, List.set_cons_succ]
          refine reg_take (i := 4) (v := ?_) rfl (by kernel_rfl) (by kernel_rfl) (by kernel_rfl) (fun _ _ _ h => h) (Or.inl ⟨by kernel_rfl, ?_⟩) hS ?_
          rotate_left
          · (intro w' hSw; obtain ⟨p1, p2⟩ := hSw; go_simp <;> with_reducible rfl)
          try simp only [List.getElem_toArray, List.getElem_cons_succ, List.getElem_cons_zero, Act.put, List.setIfInBounds_toArray, List.set_cons_zero, List.set_cons_succ]
          refine reg_call (i := 5) rfl (by kernel_rfl) (fun K hK => ?_)
          have HK := Lib.hid hK
          clear hK
          go_simp
          refine (none_any w2.drew).mono ?_
          rintro e w3 ⟨rfl, hb3⟩
          have h3 := H2.out.drew.below hb3
          have H3 := Lib.hid h3
          clear h3 hb3
          go_wp2_with fail
          refine HK.out.to (NR t (l : Nat) (tr : Nat)) (fun _ h => h) (nr_of H3.out) ?_
          clear HK hS
          have hS : (NR t (l : Nat) (tr : Nat)) (w3) := nr_of H3.out
          try simp only [List.getElem_toArray, List.getElem_cons_succ, List.getElem_cons_zero, Act.put, List.setIfInBounds_toArray, List.set_cons_zero, List.set_cons_succ]
          refine reg_take (i := 6) (v := ?_) rfl (by kernel_rfl) (by kernel_rfl) (by kernel_rfl) (fun _ _ _ h => h) (Or.inl ⟨by kernel_rfl, ?_⟩) hS ?_
          rotate_left
          · (intro w' hSw; go_simp <;> with_reducible rfl)
          try simp only [List.getElem_toArray, List.getElem_cons_succ, List.getElem_cons_zero, Act.put, List.setIfInBounds_toArray, List.set_cons_zero, List.set_cons_succ]
          refine reg_call (i := 7) rfl (by kernel_rfl) (fun K hK => ?_)
          have HK := Lib.hid hK
          clear hK
          go_simp
          refine (twrong_any H3.out false).mono ?_
          rintro e w4 ⟨rfl, h4⟩
          rw [if_neg (by simp)] at h4
          have H4 := Lib.hid h4
          have d3 := h4.c3
          have d1 : w4.cell? ⟨t, 1, none⟩ = some (.int .i64 (l : Nat)) := h4.c1
          have d2 : w4.cell? ⟨t, 2, none⟩ = some (.int .i64 (tr : Nat)) := h4.c2
          clear h4
          go_wp2_with fail
          refine HK.out.to (NR t (l : Nat) (tr : Nat)) (fun _ h => h) (nr_of H4.out) ?_
          clear HK hS
          have hS : (NR t (l : Nat) (tr : Nat)) (w4) := nr_of H4.out
          try simp only [List.getElem_toArray, List.getElem_cons_succ, List.getElem_cons_zero, Act.put, List.setIfInBounds_toArray, List.set_cons_zero, List.set_cons_succ]
          refine wpAnyH_done (by kernel_rfl) ?_ _
          try simp only [List.getElem_toArray, List.getElem_cons_succ, List.getElem_cons_zero]
          try simp only [List.getElem_toArray, List.getElem_cons_succ, List.getElem_cons_zero, Act.put, List.setIfInBounds_toArray, List.set_cons_zero, List.set_cons_succ]
          clear hl1 hS
          rcases HC.out with ⟨rfl, hn⟩ | ⟨rfl, hn⟩
          · clear HC H2 H3
            have hlt : l + tr ≤ 63 := HH.out.2 (l, tr) rfl
            have hlt64 : l + tr ≤ 64 := by omega
            have HO := Lib.hid hn
            clear hn
            go_wp2_with fail
            refine (inside_any l tr hlt64 _).mono ?_
            rintro e w5 ⟨rfl, hb5⟩
            have H5 := Lib.hid (H4.out.below hb5)
            clear hb5
            go_wp2_with fail
            refine (tget_any H5.out (64 - l - tr) (by omega)).mono ?_
            rintro e w6 ⟨rfl, h6⟩
            have hn := HO.out
            unfold oldX at hn
            by_cases q3 : p2 + (64 - l - tr) ≤ en
            · rw [tget_ok q3] at h6
              rw [tget_ok q3]
              simp only [] at h6 hn
              rw [if_pos q3] at hn
              have hvl := gets_lt bs p2 (64 - l - tr)
              obtain ⟨v, hv⟩ : ∃ v, v = gets bs p2 (64 - l - tr) := ⟨_, rfl⟩
              rw [← hv] at hvl hn
              rw [← hv]
              obtain ⟨x, hx⟩ : ∃ x, x = v * 2 ^ tr := ⟨_, rfl⟩
              have hxl : x < 18446744073709551616 := by rw [hx]; exact shift_lt hvl (by omega)
              have hsw := shift_walk hx hxl
              have hv0 : v = 0 → x = 0 := fun h => by rw [hx, h, Nat.zero_mul]
              by_cases h0 : v = 0
              · rw [if_pos h0] at hn
                have hx0 := hv0 h0
                subst h0
                subst hx0
                have H6 := Lib.hid (And.intro h6 hn)
                clear h6 hn hv hvl hx hxl hv0 q3 d1 d2 d3 HO
                rw [show ((0 : Nat) : Int) = 0 from rfl]
                rw [show ((0 : Nat) : Int) = 0 from rfl] at hsw
                go_wp2_with fail
                refine (twrong_any H6.out.1 true).mono ?_
                rintro e w7 ⟨rfl, h7⟩
                rw [if_pos ⟨rfl, rfl⟩] at h7
                have d2 : w7.cell? ⟨t, 2, none⟩ = some (.int .i64 (tr : Nat)) := h7.c2
                have H7 := Lib.hid h7
                clear h7
                go_wp2_with fail
                go_ret
                exact ⟨0, _, 11, _, rfl, by omega, H7.out, .inr ⟨.inr rfl, H6.out.2⟩⟩
              · rw [if_neg h0, ← hx] at hn
                have hd : ((v : Int) == 0) = false := by simp [h0]
                have H6 := Lib.hid (And.intro h6 (And.intro hn hxl))
                clear h6 hn hv hvl hx hxl hv0 q3 d1 d2 d3 HO h0
                go_wp2_with fail
                refine (twrong_any H6.out.1 false).mono ?_
                rintro e w7 ⟨rfl, h7⟩
                rw [if_neg (by simp)] at h7
                have d2 : w7.cell? ⟨t, 2, none⟩ = some (.int .i64 (tr : Nat)) := h7.c2
                have H7 := Lib.hid h7
                clear h7
                go_wp2_with fail
                go_ret
                exact ⟨x, _, 0, _, rfl, H6.out.2.2, H7.out, .inl ⟨rfl, H6.out.2.1⟩⟩
            · rw [tget_end q3] at h6
              rw [tget_end q3]
              simp only [] at h6 hn
              rw [if_neg q3] at hn
              have H6 := Lib.hid (And.intro h6 hn)
              clear h6 hn q3 d1 d2 d3 HO
              rw [show ((0 : Nat) : Int) = 0 from rfl]
              go_wp2_with fail
              refine (twrong_any H6.out.1 true).mono ?_
              rintro e w7 ⟨rfl, h7⟩
              rw [if_neg (by simp)] at h7
              have d2 : w7.cell? ⟨t, 2, none⟩ = some (.int .i64 (tr : Nat)) := h7.c2
              have H7 := Lib.hid h7
              clear h7
              go_wp2_with fail
              go_ret
              exact ⟨0, _, 10, _, rfl, by omega, H7.out, .inr ⟨.inl rfl, H6.out.2⟩⟩
          · have HO := Lib.hid hn
            clear HC H2 H3 hn
            go_wp2_with fail
            go_ret
            exact ⟨0, _, 10, p2, rfl, by omega, H4.out, .inr ⟨.inl rfl, HO.out⟩⟩
      · have hc2 : v2 = 1 ∧ er = 0 ∧ N = newX bs en o p2 := by
          rcases hcase with ⟨h, -⟩ | ⟨h, -⟩ | h
          · exact absurd h hv2
          · exact absurd h hv2
          · exact h
        clear hcase hv2
        obtain ⟨rfl, rfl, hn2⟩ := hc2
        have HM := Lib.hid hn2
        clear hn2
        rw [show ((1 : Nat) : Int) = 1 from rfl]
        go_wp2_with fail
        refine (tget_any H2.out 6 (by omega)).mono ?_
        rintro e w3 ⟨rfl, h3⟩
        obtain ⟨l, e3, p3, hg3, hl64, hc3⟩ : ∃ (l : Nat) (e3 : Int) (p3 : Nat), tget bs en 0 p2 6 = (l, e3, p3) ∧ l < 64 ∧ ((e3 = 0 ∧ p3 = p2 + 6 ∧ l = gets bs p2 6 ∧ N = if p2 + 6 + 6 ≤ en then newY bs en o (gets bs p2 6) (gets bs (p2 + 6) 6 + 1) (p2 + 6 + 6) else none) ∨ (e3 = 10 ∧ N = none)) := by
          have hn := HM.out
          unfold newX at hn
          by_cases q2 : p2 + 6 ≤ en
          · rw [if_pos q2] at hn
            exact ⟨_, _, _, tget_ok q2, gets_lt bs p2 6, .inl ⟨rfl, rfl, rfl, hn⟩⟩
          · rw [if_neg q2] at hn
            exact ⟨_, _, _, tget_end q2, by omega, .inr ⟨rfl, hn⟩⟩
        rw [hg3] at h3
        rw [hg3]
        simp only [] at h3
        have H3 := Lib.hid (And.intro h3 hc3)
        clear hg3 h3 hc3 HM
        have wl1 : IntKind.i64.wrap (l : Int) = (l : Int) := IntWalk.i64_in _ (by omega)
        go_wp2_with fail
        refine (tget_any H3.out.1 6 (by omega)).mono ?_
        rintro e w5 ⟨rfl, h5⟩
        obtain ⟨m, e5, p5, hg5, hm64, hc5⟩ : ∃ (m : Nat) (e5 : Int) (p5 : Nat), tget bs en e3 p3 6 = (m, e5, p5) ∧ m < 64 ∧ ((e5 = 0 ∧ N = newY bs en o l (m + 1) p5) ∨ (e5 = 10 ∧ N = none)) := by
          rcases H3.out.2 with ⟨rfl, rfl, hl, hn⟩ | ⟨rfl, hn⟩
          · by_cases q2 : p2 + 6 + 6 ≤ en
            · rw [if_pos q2, ← hl] at hn
              exact ⟨_, _, _, tget_ok q2, gets_lt bs (p2 + 6) 6, .inl ⟨rfl, hn⟩⟩
            · rw [if_neg q2] at hn
              exact ⟨_, _, _, tget_end q2, by omega, .inr ⟨rfl, hn⟩⟩
          · exact ⟨_, _, _, tget_err (by omega), by omega, .inr ⟨rfl, hn⟩⟩
        rw [hg5] at h5
        rw [hg5]
        simp only [] at h5
        obtain ⟨mm, hmm⟩ : ∃ mm, mm = m + 1 := ⟨_, rfl⟩
        rw [← hmm] at hc5
        have hmi : (m : Int) + 1 = (mm : Int) := by omega
        have hmm1 : 1 ≤ mm := by omega
        have hmm64 : mm ≤ 64 := by omega
        have H5 := Lib.hid (And.intro h5 hc5)
        clear hg5 h5 hc5 H3 H2 hmm
        have wm1 : IntKind.i64.wrap (m : Int) = (m : Int) := IntWalk.i64_in _ (by omega)
        by_cases hlm : l + mm ≤ 64
        · have dl : decide ((64 : Int) < (l : Int) + (mm : Int)) = false := by simp; omega
          go_wp2_with fail
          refine (twrong_any H5.out.1 false).mono ?_
          rintro e w6 ⟨rfl, h6⟩
          rw [if_neg (by simp)] at h6
          have d3 := h6.c3
          have H6 := Lib.hid h6
          clear h6 wl1 wm1 hmi dl
          rcases H5.out.2 with ⟨rfl, hn⟩ | ⟨rfl, hn⟩
          · clear H5
            obtain ⟨s, hs⟩ : ∃ s, s = 64 - l - mm := ⟨_, rfl⟩
            have hsi : (64 : Int) - l - mm = (s : Int) := by omega
            have hs63 : s ≤ 63 := by omega
            have hs64 : s < 64 := by omega
            have h7 := H6.out.below ((Below.refl w6.heap.size w6).alloc (Nat.le_refl _) (.cells #[.int .i64 (l : Nat), .int .i64 (s : Nat)] 118))
            have hy7 := Blk.fresh w6 118 #[.int .i64 (l : Nat), .int .i64 (s : Nat)]
            obtain ⟨y, hy⟩ : ∃ y, y = w6.heap.size := ⟨_, rfl⟩
            obtain ⟨w7, hw7⟩ : ∃ w7, w7 = w6.alloc (.cells #[.int .i64 (l : Nat), .int .i64 (s : Nat)] 118) := ⟨_, rfl⟩
            have hyt : y ≠ t := by have := H6.out.blk.lt; omega
            have hyr : y ≠ r := by
              obtain ⟨A, c, hb, -⟩ := H6.out.rd.blk
              have := hb.lt
              omega
            unfold newY at hn
            rw [if_pos hlm, ← hs] at hn
            have HSS := Lib.hid hs
            clear hs
            go_wp2_with fail
            have hs := HSS.out
            clear HSS
            rw [← hw7, ← hy]
            rw [← hw7] at h7 hy7
            rw [← hy] at hy7
            have H7 := Lib.hid (And.intro h7 (And.intro hy7 (And.intro hn (And.intro hlm hs))))
            have HY := Lib.hid (And.intro hyt hyr)
            clear h7 hy7 hn hy hw7 H6 d3 hlm hs hyt hyr hsi
            have hS : (NR2 t y (wl o) (wt o) l s) (w7.drew) := nr2_of H7.out.1.drew H7.out.2.1.drew
            refine reg_start (NR2 t y (wl o) (wt o) l s) (by kernel_rfl) hS ?_
            refine reg_take (i := 0) (v := ?_) rfl (by kernel_rfl) (by kernel_rfl) (by kernel_rfl) (fun _ _ _ h => h) (Or.inl ⟨by kernel_rfl, ?_⟩) hS ?_
            rotate_left
            · (intro w' hSw; go_simp <;> with_reducible rfl)
            try simp only [List.getElem_toArray, List.getElem_cons_succ, List.getElem_cons_zero, Act.put, List.setIfInBounds_toArray, List.set_cons_zero, List.set_cons_succ]
            refine reg_take (i := 1) (v := ?_) rfl (by kernel_rfl) (by kernel_rfl) (by kernel_rfl) (fun _ _ _ h => h) (Or.inl ⟨by kernel_rfl, ?_⟩) hS ?_
            rotate_left
            · (intro w' hSw; go_simp <;> with_reducible rfl)
            try simp only [List.getElem_toArray, List.getElem_cons_succ, List.getElem_cons_zero, Act.put, List.setIfInBounds_toArray, List.set_cons_zero, List.set_cons_succ]
            refine reg_take (i := 3) (v := ?_) rfl (by kernel_rfl) (by kernel_rfl) (by kernel_rfl) (fun _ _ _ h => h) (Or.inl ⟨by kernel_rfl, ?_⟩) hS ?_
            rotate_left
            · (intro w' hSw; go_simp <;> with_reducible rfl)
            try simp only [List.getElem_toArray, List.getElem_cons_succ, List.getElem_cons_zero, Act.put, List.setIfInBounds_toArray, List.set_cons_zero, List.set_cons_succ]
            refine reg_take (i := 4) (v := ?_) rfl (by kernel_rfl) (by kernel_rfl) (by kernel_rfl) (fun _ _ _ h => h) (Or.inl ⟨by kernel_rfl, ?_⟩) hS ?_
            rotate_left
            · (intro w' hSw; obtain ⟨-, -, p2⟩ := hSw; go_simp <;> with_reducible rfl)
            try simp only [List.getElem_toArray, List.getElem_cons_succ, List.getElem_cons_zero, Act.put, List.setIfInBounds_toArray, List.set_cons_zero, List.set_cons_succ]
            refine reg_call (i := 2) rfl (by kernel_rfl) (fun K hK => ?_)
            have HK := Lib.hid hK
            clear hK
            go_simp
            refine (tget_any H7.out.1.drew.re mm (by omega)).mono ?_
            rintro e w8 ⟨rfl, h8'⟩
            obtain ⟨v, e8, p8, hg8, hv8, hc8⟩ : ∃ (v : Nat) (e8 : Int) (p8 : Nat), tget bs en 0 p5 mm = (v, e8, p8) ∧ v < 2 ^ mm ∧ ((e8 = 0 ∧ N = if v * 2 ^ s ≠ 0 ∧ lead (v * 2 ^ s) = l ∧ trail (v * 2 ^ s) = s ∧ fits o (v * 2 ^ s) = false then some (v * 2 ^ s, some (l, s), p8) else none) ∨ (v = 0 ∧ e8 = 10 ∧ N = none)) := by
              have hn := H7.out.2.2.1
              by_cases q2 : p5 + mm ≤ en
              · rw [if_pos q2] at hn
                exact ⟨_, _, _, tget_ok q2, gets_lt bs p5 mm, .inl ⟨rfl, hn⟩⟩
              · rw [if_neg q2] at hn
                exact ⟨_, _, _, tget_end q2, Nat.two_pow_pos _, .inr ⟨rfl, rfl, hn⟩⟩
            rw [hg8] at h8'
            rw [hg8]
            simp only [] at h8'
            have h8 := H7.out.1.drew.on h8'
            have hy8 : Blk w8 y 118 #[.int .i64 (l : Nat), .int .i64 (s : Nat)] := H7.out.2.1.drew.keeps h8'.keep (fun e => by have := HY.out; omega)
            obtain ⟨x, hx⟩ : ∃ x, x = v * 2 ^ s := ⟨_, rfl⟩
            have hxl : x < 18446744073709551616 := by rw [hx]; exact shift_lt hv8 (by have := H7.out.2.2.2; omega)
            have hsw := shift_walk hx hxl
            rw [← hx] at hc8
            have hv0 : v = 0 → x = 0 := fun h => by rw [hx, h, Nat.zero_mul]
            have H8 := Lib.hid (And.intro h8 (And.intro hy8 (And.intro hc8 (And.intro hxl hv0))))
            clear hg8 h8 h8' hy8 hc8 hv8 hx hxl hv0
            go_wp2_with fail
            refine HK.out.to (NR2 t y (wl o) (wt o) l s) (fun _ h => h) (nr2_of H8.out.1 H8.out.2.1) ?_
            clear HK hS
            have hS : (NR2 t y (wl o) (wt o) l s) (w8) := nr2_of H8.out.1 H8.out.2.1
            try simp only [List.getElem_toArray, List.getElem_cons_succ, List.getElem_cons_zero, Act.put, List.setIfInBounds_toArray, List.set_cons_zero, List.set_cons_succ]
            refine reg_take (i := 5) (v := ?_) rfl (by kernel_rfl) (by kernel_rfl) (by kernel_rfl) (fun _ _ _ h => h) (Or.inl ⟨by kernel_rfl, ?_⟩) hS ?_
            rotate_left
            · (intro w' hSw; go_simp <;> with_reducible rfl)
            try simp only [List.getElem_toArray, List.getElem_cons_succ, List.getElem_cons_zero, Act.put, List.setIfInBounds_toArray, List.set_cons_zero, List.set_cons_succ]
            refine reg_take (i := 6) (v := ?_) rfl (by kernel_rfl) (by kernel_rfl) (by kernel_rfl) (fun _ _ _ h => h) (Or.inl ⟨by kernel_rfl, ?_⟩) hS ?_
            rotate_left
            · (intro w' hSw; go_simp <;> with_reducible rfl)
            try simp only [List.getElem_toArray, List.getElem_cons_succ, List.getElem_cons_zero, Act.put, List.setIfInBounds_toArray, List.set_cons_zero, List.set_cons_succ]
            refine wpAnyH_done (by kernel_rfl) ?_ _
            try simp only [List.getElem_toArray, List.getElem_cons_succ, List.getElem_cons_zero]
            try simp only [List.getElem_toArray, List.getElem_cons_succ, List.getElem_cons_zero, Act.put, List.setIfInBounds_toArray, List.set_cons_zero, List.set_cons_succ]
            clear hsw
            by_cases hx0 : x = 0
            · subst hx0
              rw [show ((0 : Nat) : Int) = 0 from rfl]
              go_wp2_with fail
              have hS : (NR2 t y (wl o) (wt o) l s) (w8.drew) := nr2_of H8.out.1.drew H8.out.2.1.drew
              refine reg_start (NR2 t y (wl o) (wt o) l s) (by kernel_rfl) hS ?_
              refine reg_take (i := 0) (v := ?_) rfl (by kernel_rfl) (by kernel_rfl) (by kernel_rfl) (fun _ _ _ h => h) (Or.inl ⟨by kernel_rfl, ?_⟩) hS ?_
              rotate_left
              · (intro w' hSw; go_simp <;> with_reducible rfl)
              try simp only [List.getElem_toArray, List.getElem_cons_succ, List.getElem_cons_zero, Act.put, List.setIfInBounds_toArray, List.set_cons_zero, List.set_cons_succ]
              refine reg_take (i := 1) (v := ?_) rfl (by kernel_rfl) (by kernel_rfl) (by kernel_rfl) (fun _ _ _ h => h) (Or.inl ⟨by kernel_rfl, ?_⟩) hS ?_
              rotate_left
              · (intro w' hSw; go_simp <;> with_reducible rfl)
              try simp only [List.getElem_toArray, List.getElem_cons_succ, List.getElem_cons_zero, Act.put, List.setIfInBounds_toArray, List.set_cons_zero, List.set_cons_succ]
              refine reg_take (i := 2) (v := ?_) rfl (by kernel_rfl) (by kernel_rfl) (by kernel_rfl) (fun _ _ _ h => h) (Or.inl ⟨by kernel_rfl, ?_⟩) hS ?_
              rotate_left
              · (intro w' hSw; go_simp <;> with_reducible rfl)
              try simp only [List.getElem_toArray, List.getElem_cons_succ, List.getElem_cons_zero, Act.put, List.setIfInBounds_toArray, List.set_cons_zero, List.set_cons_succ]
              refine reg_take (i := 3) (v := ?_) rfl (by kernel_rfl) (by kernel_rfl) (by kernel_rfl) (fun _ _ _ h => h) (Or.inl ⟨by kernel_rfl, ?_⟩) hS ?_
              rotate_left
              · (intro w' hSw; go_simp <;> with_reducible rfl)
              try simp only [List.getElem_toArray, List.getElem_cons_succ, List.getElem_cons_zero, Act.put, List.setIfInBounds_toArray, List.set_cons_zero, List.set_cons_succ]
              refine reg_take (i := 4) (v := undef) rfl (by kernel_rfl) (by kernel_rfl) (by kernel_rfl) (fun _ _ _ h => h) (Or.inr ⟨by kernel_rfl, rfl⟩) hS ?_
              try simp only [List.getElem_toArray, List.getElem_cons_succ, List.getElem_cons_zero, Act.put, List.setIfInBounds_toArray, List.set_cons_zero, List.set_cons_succ]
              refine reg_take (i := 5) (v := undef) rfl (by kernel_rfl) (by kernel_rfl) (by kernel_rfl) (fun _ _ _ h => h) (Or.inr ⟨by kernel_rfl, rfl⟩) hS ?_
              try simp only [List.getElem_toArray, List.getElem_cons_succ, List.getElem_cons_zero, Act.put, List.setIfInBounds_toArray, List.set_cons_zero, List.set_cons_succ]
              refine reg_take (i := 6) (v := undef) rfl (by kernel_rfl) (by kernel_rfl) (by kernel_rfl) (fun _ _ _ h => h) (Or.inr ⟨by kernel_rfl, rfl⟩) hS ?_
              try simp only [List.getElem_toArray, List.getElem_cons_succ, List.getElem_cons_zero, Act.put, List.setIfInBounds_toArray, List.set_cons_zero, List.set_cons_succ]
              refine reg_take (i := 7) (v := undef) rfl (by kernel_rfl) (by kernel_rfl) (by kernel_rfl) (fun _ _ _ h => h) (Or.inr ⟨by kernel_rfl, rfl⟩) hS ?_
              try simp only [List.getElem_toArray, List.getElem_cons_succ, List.getElem_cons_zero, Act.put, List.setIfInBounds_toArray, List.set_cons_zero, List.set_cons_succ]
              refine reg_take (i := 8) (v := ?_) rfl (by kernel_rfl) (by kernel_rfl) (by kernel_rfl) (fun _ _ _ h => h) (Or.inl ⟨by kernel_rfl, ?_⟩) hS ?_
              rotate_left
              · (intro w' hSw; go_simp <;> with_reducible rfl)
              try simp only [List.getElem_toArray, List.getElem_cons_succ, List.getElem_cons_zero, Act.put, List.setIfInBounds_toArray, List.set_cons_zero, List.set_cons_succ]
              refine reg_take (i := 9) (v := ?_) rfl (by kernel_rfl) (by kernel_rfl) (by kernel_rfl) (fun _ _ _ h => h) (Or.inl ⟨by kernel_rfl, ?_⟩) hS ?_
              rotate_left
              · (intro w' hSw; go_simp <;> with_reducible rfl)
              try simp only [List.getElem_toArray, List.getElem_cons_succ, List.getElem_cons_zero, Act.put, List.setIfInBounds_toArray, List.set_cons_zero, List.set_cons_succ]
              refine reg_take (i := 10) (v := undef) rfl (by kernel_rfl) (by kernel_rfl) (by kernel_rfl) (fun _ _ _ h => h) (Or.inr ⟨by kernel_rfl, rfl⟩) hS ?_
              try simp only [List.getElem_toArray, List.getElem_cons_succ, List.getElem_cons_zero, Act.put, List.setIfInBounds_toArray, List.set_cons_zero, List.set_cons_succ]
              refine reg_take (i := 11) (v := undef) rfl (by kernel_rfl) (by kernel_rfl) (by kernel_rfl) (fun _ _ _ h => h) (Or.inr ⟨by kernel_rfl, rfl⟩) hS ?_
              try simp only [List.getElem_toArray, List.getElem_cons_succ, List.getElem_cons_zero, Act.put, List.setIfInBounds_toArray, List.set_cons_zero, List.set_cons_succ]
              refine reg_take (i := 12) (v := undef) rfl (by kernel_rfl) (by kernel_rfl) (by kernel_rfl) (fun _ _ _ h => h) (Or.inr ⟨by kernel_rfl, rfl⟩) hS ?_
              try simp only [List.getElem_toArray, List.getElem_cons_succ, List.getElem_cons_zero, Act.put, List.setIfInBounds_toArray, List.set_cons_zero, List.set_cons_succ]
              refine reg_take (i := 13) (v := undef) rfl (by kernel_rfl) (by kernel_rfl) (by kernel_rfl) (fun _ _ _ h => h) (Or.inr ⟨by kernel_rfl, rfl⟩) hS ?_
              try simp only [List.getElem_toArray, List.getElem_cons_succ, List.getElem_cons_zero, Act.put, List.setIfInBounds_toArray, List.set_cons_zero, List.set_cons_succ]
              refine reg_take (i := 14) (v := undef) rfl (by kernel_rfl) (by kernel_rfl) (by kernel_rfl) (fun _ _ _ h => h) (Or.inr ⟨by kernel_rfl, rfl⟩) hS ?_
              try simp only [List.getElem_toArray, List.getElem_cons_succ, List.getElem_cons_zero, Act.put, List.setIfInBounds_toArray, List.set_cons_zero, List.set_cons_succ]
              refine reg_take (i := 15) (v := undef) rfl (by kernel_rfl) (by kernel_rfl) (by kernel_rfl) (fun _ _ _ h => h) (Or.inr ⟨by kernel_rfl, rfl⟩) hS ?_
              try simp only [List.getElem_toArray, List.getElem_cons_succ, List.getElem_cons_zero, Act.put, List.setIfInBounds_toArray, List.set_cons_zero, List.set_cons_succ]
              refine reg_take (i := 16) (v := ?_) rfl (by kernel_rfl) (by kernel_rfl) (by kernel_rfl) (fun _ _ _ h => h) (Or.inl ⟨by kernel_rfl, ?_⟩) hS ?_
              rotate_left
              · (intro w' hSw; go_simp <;> with_reducible rfl)
              try simp only [List.getElem_toArray, List.getElem_cons_succ, List.getElem_cons_zero, Act.put, List.setIfInBounds_toArray, List.set_cons_zero, List.set_cons_succ]
              have HYB := Lib.hid H8.out.2.1.drew
              refine reg_call (i := 17) rfl (by kernel_rfl) (fun K hK => ?_)
              have HK := Lib.hid hK
              clear hK
              go_simp
              refine (twrong_any (H8.out.1.drew).re true).mono ?_
              rintro e wz ⟨rfl, hz'⟩
              obtain ⟨ez, hez, hnz⟩ : ∃ ez : Int, (if true = true ∧ e8 = 0 then (11 : Int) else e8) = ez ∧ ((ez = 0 ∧ N = some (0, some (l, s), p8)) ∨ ((ez = 10 ∨ ez = 11) ∧ N = none)) := by
                rcases H8.out.2.2.1 with ⟨rfl, hn⟩ | ⟨-, rfl, hn⟩
                · rw [if_neg (by simp)] at hn
                  exact ⟨11, by simp, .inr ⟨.inr rfl, hn⟩⟩
                · exact ⟨10, by simp, .inr ⟨.inl rfl, hn⟩⟩
              rw [hez] at hz'
              have hz := (H8.out.1.drew).on hz'
              have hyz : Blk wz y 118 #[.int .i64 (l : Nat), .int .i64 (s : Nat)] := (HYB.out).keeps hz'.keep (fun e => by have := HY.out; omega)
              have HZ := Lib.hid (And.intro hz (And.intro hyz hnz))
              clear hz hz' hyz hnz hez
              go_wp2_with fail
              refine HK.out.to (NR2 t y (wl o) (wt o) l s) (fun _ h => h) (nr2_of HZ.out.1 HZ.out.2.1) ?_
              clear HK hS
              have hS : (NR2 t y (wl o) (wt o) l s) (wz) := nr2_of HZ.out.1 HZ.out.2.1
              try simp only [List.getElem_toArray, List.getElem_cons_succ, List.getElem_cons_zero, Act.put, List.setIfInBounds_toArray, List.set_cons_zero, List.set_cons_succ]
              refine wpAnyH_done (by kernel_rfl) ?_ _
              try simp only [List.getElem_toArray, List.getElem_cons_succ, List.getElem_cons_zero]
              try simp only [List.getElem_toArray, List.getElem_cons_succ, List.getElem_cons_zero, Act.put, List.setIfInBounds_toArray, List.set_cons_zero, List.set_cons_succ]
              have y0 : wz.cell? ⟨y, 0, none⟩ = some (.int .i64 (l : Nat)) := hS.2.1
              have y1 : wz.cell? ⟨y, 1, none⟩ = some (.int .i64 (s : Nat)) := hS.2.2
              have z1 : wz.cell? ⟨t, 1, none⟩ = some (.int .i64 (wl o)) := hS.1.1
              have z2 : wz.cell? ⟨t, 2, none⟩ = some (.int .i64 (wt o)) := hS.1.2
              have f1 := HZ.out.1.fz 1
              have f2 := HZ.out.1.fz 2
              clear hS
              go_wp2_with fail
              go_ret
              exact ⟨0, some (l, s), ez, p8, rfl, by omega, HZ.out.1.setO l s, HZ.out.2.2⟩
            · have HX0 := Lib.hid hx0
              have hd : ((x : Int) == 0) = false := by simp [hx0]
              have hxn : ¬ ((x : Int) = 0) := by omega
              obtain ⟨he8, hn8⟩ : e8 = 0 ∧ N = if x ≠ 0 ∧ lead x = l ∧ trail x = s ∧ fits o x = false then some (x, some (l, s), p8) else none := by
                rcases H8.out.2.2.1 with h | ⟨h, -⟩
                · exact h
                · exact absurd (H8.out.2.2.2.2 h) hx0
              have HE8 := Lib.hid (And.intro he8 hn8)
              clear hx0 he8 hn8
              go_wp2_with fail
              have hS : (NR2 t y (wl o) (wt o) l s) (w8.drew) := nr2_of H8.out.1.drew H8.out.2.1.drew
              refine reg_start (NR2 t y (wl o) (wt o) l s) (by kernel_rfl) hS ?_
              refine reg_take (i := 0) (v := ?_) rfl (by kernel_rfl) (by kernel_rfl) (by kernel_rfl) (fun _ _ _ h => h) (Or.inl ⟨by kernel_rfl, ?_⟩) hS ?_
              rotate_left
              · (intro w' hSw; go_simp <;> with_reducible rfl)
              try simp only [List.getElem_toArray, List.getElem_cons_succ, List.getElem_cons_zero, Act.put, List.setIfInBounds_toArray, List.set_cons_zero, List.set_cons_succ]
              refine reg_take (i := 1) (v := ?_) rfl (by kernel_rfl) (by kernel_rfl) (by kernel_rfl) (fun _ _ _ h => h) (Or.inl ⟨by kernel_rfl, ?_⟩) hS ?_
              rotate_left
              · (intro w' hSw; go_simp <;> with_reducible rfl)
              try simp only [List.getElem_toArray, List.getElem_cons_succ, List.getElem_cons_zero, Act.put, List.setIfInBounds_toArray, List.set_cons_zero, List.set_cons_succ]
              refine reg_take (i := 2) (v := ?_) rfl (by kernel_rfl) (by kernel_rfl) (by kernel_rfl) (fun _ _ _ h => h) (Or.inl ⟨by kernel_rfl, ?_⟩) hS ?_
              rotate_left
              · (intro w' hSw; go_simp <;> with_reducible rfl)
              try simp only [List.getElem_toArray, List.getElem_cons_succ, List.getElem_cons_zero, Act.put, List.setIfInBounds_toArray, List.set_cons_zero, List.set_cons_succ]
              refine reg_take (i := 3) (v := ?_) rfl (by kernel_rfl) (by kernel_rfl) (by kernel_rfl) (fun _ _ _ h => h) (Or.inl ⟨by kernel_rfl, ?_⟩) hS ?_
              rotate_left
              · (intro w' hSw; go_simp <;> with_reducible rfl)
              try simp only [List.getElem_toArray, List.getElem_cons_succ, List.getElem_cons_zero, Act.put, List.setIfInBounds_toArray, List.set_cons_zero, List.set_cons_succ]
              refine reg_take (i := 4) (v := ?_) rfl (by kernel_rfl) (by kernel_rfl) (by kernel_rfl) (fun _ _ _ h => h) (Or.inl ⟨by kernel_rfl, ?_⟩) hS ?_
              rotate_left
              · (intro w' hSw; go_simp <;> with_reducible rfl)
              try simp only [List.getElem_toArray, List.getElem_cons_succ, List.getElem_cons_zero, Act.put, List.setIfInBounds_toArray, List.set_cons_zero, List.set_cons_succ]
              refine reg_take (i := 6) (v := ?_) rfl (by kernel_rfl) (by kernel_rfl) (by kernel_rfl) (fun _ _ _ h => h) (Or.inl ⟨by kernel_rfl, ?_⟩) hS ?_
              rotate_left
              · (intro w' hSw; obtain ⟨-, p1, p2⟩ := hSw; go_simp <;> with_reducible rfl)
              try simp only [List.getElem_toArray, List.getElem_cons_succ, List.getElem_cons_zero, Act.put, List.setIfInBounds_toArray, List.set_cons_zero, List.set_cons_succ]
              refine reg_call (i := 5) rfl (by kernel_rfl) (fun K hK => ?_)
              have HK := Lib.hid hK
              clear hK
              go_simp
              refine (of_any x H8.out.2.2.2.1 w8.drew).mono ?_
              rintro e w9 ⟨rfl, hb9⟩
              have h9 := H8.out.1.drew.below hb9
              have hy9 := H8.out.2.1.drew.below hb9 H8.out.2.1.lt
              have hhas := has_es o x (wl o) (wt o) (winC_w o)
              obtain ⟨la, hla⟩ : ∃ la, la = lead x := ⟨_, rfl⟩
              obtain ⟨ta, hta⟩ : ∃ ta, ta = trail x := ⟨_, rfl⟩
              rw [← hla, ← hta] at hhas
              rw [← hla, ← hta]
              have H9 := Lib.hid (And.intro h9 hy9)
              have HHAS := Lib.hid hhas
              have HLA := Lib.hid (And.intro hla hta)
              clear h9 hy9 hb9 hhas hla hta
              go_wp2_with fail
              refine HK.out.to (NR2 t y (wl o) (wt o) l s) (fun _ h => h) (nr2_of H9.out.1 H9.out.2) ?_
              clear HK hS
              have hS : (NR2 t y (wl o) (wt o) l s) (w9) := nr2_of H9.out.1 H9.out.2
              try simp only [List.getElem_toArray, List.getElem_cons_succ, List.getElem_cons_zero, Act.put, List.setIfInBounds_toArray, List.set_cons_zero, List.set_cons_succ]
              by_cases hne : la = l ∧ ta = s
              · obtain ⟨rfl, rfl⟩ := hne
                refine reg_take (i := 7) (v := ?_) rfl (by kernel_rfl) (by kernel_rfl) (by kernel_rfl) (fun _ _ _ h => h) (Or.inl ⟨by kernel_rfl, ?_⟩) hS ?_
                rotate_left
                · (intro w' hSw; go_simp <;> with_reducible rfl)
                try simp only [List.getElem_toArray, List.getElem_cons_succ, List.getElem_cons_zero, Act.put, List.setIfInBounds_toArray, List.set_cons_zero, List.set_cons_succ]
                refine reg_take (i := 8) (v := ?_) rfl (by kernel_rfl) (by kernel_rfl) (by kernel_rfl) (fun _ _ _ h => h) (Or.inl ⟨by kernel_rfl, ?_⟩) hS ?_
                rotate_left
                · (intro w' hSw; go_simp <;> with_reducible rfl)
                try simp only [List.getElem_toArray, List.getElem_cons_succ, List.getElem_cons_zero, Act.put, List.setIfInBounds_toArray, List.set_cons_zero, List.set_cons_succ]
                refine reg_take (i := 9) (v := ?_) rfl (by kernel_rfl) (by kernel_rfl) (by kernel_rfl) (fun _ _ _ h => h) (Or.inl ⟨by kernel_rfl, ?_⟩) hS ?_
                rotate_left
                · (intro w' hSw; go_simp <;> with_reducible rfl)
                try simp only [List.getElem_toArray, List.getElem_cons_succ, List.getElem_cons_zero, Act.put, List.setIfInBounds_toArray, List.set_cons_zero, List.set_cons_succ]
                refine reg_take (i := 10) (v := ?_) rfl (by kernel_rfl) (by kernel_rfl) (by kernel_rfl) (fun _ _ _ h => h) (Or.inl ⟨by kernel_rfl, ?_⟩) hS ?_
                rotate_left
                · (intro w' hSw; go_simp <;> with_reducible rfl)
                try simp only [List.getElem_toArray, List.getElem_cons_succ, List.getElem_cons_zero, Act.put, List.setIfInBounds_toArray, List.set_cons_zero, List.set_cons_succ]
                refine reg_take (i := 11) (v := ?_) rfl (by kernel_rfl) (by kernel_rfl) (by kernel_rfl) (fun _ _ _ h => h) (Or.inl ⟨by kernel_rfl, ?_⟩) hS ?_
                rotate_left
                · (intro w' hSw; go_simp <;> with_reducible rfl)
                try simp only [List.getElem_toArray, List.getElem_cons_succ, List.getElem_cons_zero, Act.put, List.setIfInBounds_toArray, List.set_cons_zero, List.set_cons_succ]
                refine reg_take (i := 12) (v := ?_) rfl (by kernel_rfl) (by kernel_rfl) (by kernel_rfl) (fun _ _ _ h => h) (Or.inl ⟨by kernel_rfl, ?_⟩) hS ?_
                rotate_left
                · (intro w' hSw; go_simp <;> with_reducible rfl)
                try simp only [List.getElem_toArray, List.getElem_cons_succ, List.getElem_cons_zero, Act.put, List.setIfInBounds_toArray, List.set_cons_zero, List.set_cons_succ]
                refine reg_take (i := 13) (v := ?_) rfl (by kernel_rfl) (by kernel_rfl) (by kernel_rfl) (fun _ _ _ h => h) (Or.inl ⟨by kernel_rfl, ?_⟩) hS ?_
                rotate_left
                · (intro w' hSw; obtain ⟨⟨p1, p2⟩, -⟩ := hSw; go_simp <;> with_reducible rfl)
                try simp only [List.getElem_toArray, List.getElem_cons_succ, List.getElem_cons_zero, Act.put, List.setIfInBounds_toArray, List.set_cons_zero, List.set_cons_succ]
                refine reg_take (i := 14) (v := ?_) rfl (by kernel_rfl) (by kernel_rfl) (by kernel_rfl) (fun _ _ _ h => h) (Or.inl ⟨by kernel_rfl, ?_⟩) hS ?_
                rotate_left
                · (intro w' hSw; obtain ⟨-, p1, p2⟩ := hSw; go_simp <;> with_reducible rfl)
                try simp only [List.getElem_toArray, List.getElem_cons_succ, List.getElem_cons_zero, Act.put, List.setIfInBounds_toArray, List.set_cons_zero, List.set_cons_succ]
                refine reg_call (i := 15) rfl (by kernel_rfl) (fun K hK => ?_)
                have HK := Lib.hid hK
                clear hK
                go_simp
                refine (HHAS.out w9).mono ?_
                rintro e wh ⟨rfl, hbh⟩
                have hh := H9.out.1.below hbh
                have hyh := H9.out.2.below hbh H9.out.2.lt
                obtain ⟨bf, hbf⟩ : ∃ bf, bf = fits o x := ⟨_, rfl⟩
                rw [← hbf]
                have HBF := Lib.hid hbf
                have HH2 := Lib.hid (And.intro hh hyh)
                have HYB := Lib.hid hyh
                clear hh hyh hbh hbf
                go_wp2_with fail
                refine HK.out.to (NR2 t y (wl o) (wt o) la ta) (fun _ h => h) (nr2_of HH2.out.1 HH2.out.2) ?_
                clear HK hS
                have hS : (NR2 t y (wl o) (wt o) la ta) (wh) := nr2_of HH2.out.1 HH2.out.2
                try simp only [List.getElem_toArray, List.getElem_cons_succ, List.getElem_cons_zero, Act.put, List.setIfInBounds_toArray, List.set_cons_zero, List.set_cons_succ]
                refine reg_take (i := 16) (v := ?_) rfl (by kernel_rfl) (by kernel_rfl) (by kernel_rfl) (fun _ _ _ h => h) (Or.inl ⟨by kernel_rfl, ?_⟩) hS ?_
                rotate_left
                · (intro w' hSw; go_simp <;> with_reducible rfl)
                try simp only [List.getElem_toArray, List.getElem_cons_succ, List.getElem_cons_zero, Act.put, List.setIfInBounds_toArray, List.set_cons_zero, List.set_cons_succ]
                refine reg_call (i := 17) rfl (by kernel_rfl) (fun K hK => ?_)
                have HK := Lib.hid hK
                clear hK
                go_simp
                refine (twrong_any (HH2.out.1).re bf).mono ?_
                rintro e wz ⟨rfl, hz'⟩
                obtain ⟨ez, hez, hnz⟩ : ∃ ez : Int, (if bf = true ∧ e8 = 0 then (11 : Int) else e8) = ez ∧ ((ez = 0 ∧ N = some (x, some (la, ta), p8)) ∨ ((ez = 10 ∨ ez = 11) ∧ N = none)) := by
                  have hn := HE8.out.2
                  cases bf with
                  | true =>
                    rw [if_neg (by rw [← HBF.out]; simp)] at hn
                    exact ⟨11, by simp [HE8.out.1], .inr ⟨.inr rfl, hn⟩⟩
                  | false =>
                    rw [if_pos ⟨HX0.out, HLA.out.1.symm, HLA.out.2.symm, HBF.out.symm⟩] at hn
                    exact ⟨0, by simp [HE8.out.1], .inl ⟨rfl, hn⟩⟩
                rw [hez] at hz'
                have hz := (HH2.out.1).on hz'
                have hyz : Blk wz y 118 #[.int .i64 (la : Nat), .int .i64 (ta : Nat)] := (HYB.out).keeps hz'.keep (fun e => by have := HY.out; omega)
                have HZ := Lib.hid (And.intro hz (And.intro hyz hnz))
                clear hz hz' hyz hnz hez
                go_wp2_with fail
                refine HK.out.to (NR2 t y (wl o) (wt o) la ta) (fun _ h => h) (nr2_of HZ.out.1 HZ.out.2.1) ?_
                clear HK hS
                have hS : (NR2 t y (wl o) (wt o) la ta) (wz) := nr2_of HZ.out.1 HZ.out.2.1
                try simp only [List.getElem_toArray, List.getElem_cons_succ, List.getElem_cons_zero, Act.put, List.setIfInBounds_toArray, List.set_cons_zero, List.set_cons_succ]
                refine wpAnyH_done (by kernel_rfl) ?_ _
                try simp only [List.getElem_toArray, List.getElem_cons_succ, List.getElem_cons_zero]
                try simp only [List.getElem_toArray, List.getElem_cons_succ, List.getElem_cons_zero, Act.put, List.setIfInBounds_toArray, List.set_cons_zero, List.set_cons_succ]
                have y0 : wz.cell? ⟨y, 0, none⟩ = some (.int .i64 (la : Nat)) := hS.2.1
                have y1 : wz.cell? ⟨y, 1, none⟩ = some (.int .i64 (ta : Nat)) := hS.2.2
                have z1 : wz.cell? ⟨t, 1, none⟩ = some (.int .i64 (wl o)) := hS.1.1
                have z2 : wz.cell? ⟨t, 2, none⟩ = some (.int .i64 (wt o)) := hS.1.2
                have f1 := HZ.out.1.fz 1
                have f2 := HZ.out.1.fz 2
                clear hS
                go_wp2_with fail
                go_ret
                exact ⟨x, some (la, ta), ez, p8, rfl, H8.out.2.2.2.1, HZ.out.1.setO la ta, HZ.out.2.2⟩
              · have HNE := Lib.hid (show ¬ (x ≠ 0 ∧ lead x = l ∧ trail x = s ∧ fits o x = false) from fun h => hne ⟨HLA.out.1.trans h.2.1, HLA.out.2.trans h.2.2.1⟩)
                have HYB := Lib.hid H9.out.2
                rcases (show ¬ ((la : Int) = (l : Int)) ∨ ((la : Int) = (l : Int) ∧ ¬ ((ta : Int) = (s : Int))) by omega) with hn1 | ⟨hn0, hn1⟩
                · clear hne
                  refine reg_take (i := 7) (v := ?_) rfl (by kernel_rfl) (by kernel_rfl) (by kernel_rfl) (fun _ _ _ h => h) (Or.inl ⟨by kernel_rfl, ?_⟩) hS ?_
                  rotate_left
                  · (intro w' hSw; go_simp <;> with_reducible rfl)
                  try simp only [List.getElem_toArray, List.getElem_cons_succ, List.getElem_cons_zero, Act.put, List.setIfInBounds_toArray, List.set_cons_zero, List.set_cons_succ]
                  refine reg_take (i := 8) (v := ?_) rfl (by kernel_rfl) (by kernel_rfl) (by kernel_rfl) (fun _ _ _ h => h) (Or.inl ⟨by kernel_rfl, ?_⟩) hS ?_
                  rotate_left
                  · (intro w' hSw; go_simp <;> with_reducible rfl)
                  try simp only [List.getElem_toArray, List.getElem_cons_succ, List.getElem_cons_zero, Act.put, List.setIfInBounds_toArray, List.set_cons_zero, List.set_cons_succ]
                  refine reg_take (i := 9) (v := ?_) rfl (by kernel_rfl) (by kernel_rfl) (by kernel_rfl) (fun _ _ _ h => h) (Or.inl ⟨by kernel_rfl, ?_⟩) hS ?_
                  rotate_left
                  · (intro w' hSw; go_simp <;> with_reducible rfl)
                  try simp only [List.getElem_toArray, List.getElem_cons_succ, List.getElem_cons_zero, Act.put, List.setIfInBounds_toArray, List.set_cons_zero, List.set_cons_succ]
                  refine reg_take (i := 10) (v := undef) rfl (by kernel_rfl) (by kernel_rfl) (by kernel_rfl) (fun _ _ _ h => h) (Or.inr ⟨by kernel_rfl, rfl⟩) hS ?_
                  try simp only [List.getElem_toArray, List.getElem_cons_succ, List.getElem_cons_zero, Act.put, List.setIfInBounds_toArray, List.set_cons_zero, List.set_cons_succ]
                  refine reg_take (i := 11) (v := undef) rfl (by kernel_rfl) (by kernel_rfl) (by kernel_rfl) (fun _ _ _ h => h) (Or.inr ⟨by kernel_rfl, rfl⟩) hS ?_
                  try simp only [List.getElem_toArray, List.getElem_cons_succ, List.getElem_cons_zero, Act.put, List.setIfInBounds_toArray, List.set_cons_zero, List.set_cons_succ]
                  refine reg_take (i := 12) (v := undef) rfl (by kernel_rfl) (by kernel_rfl) (by kernel_rfl) (fun _ _ _ h => h) (Or.inr ⟨by kernel_rfl, rfl⟩) hS ?_
                  try simp only [List.getElem_toArray, List.getElem_cons_succ, List.getElem_cons_zero, Act.put, List.setIfInBounds_toArray, List.set_cons_zero, List.set_cons_succ]
                  refine reg_take (i := 13) (v := undef) rfl (by kernel_rfl) (by kernel_rfl) (by kernel_rfl) (fun _ _ _ h => h) (Or.inr ⟨by kernel_rfl, rfl⟩) hS ?_
                  try simp only [List.getElem_toArray, List.getElem_cons_succ, List.getElem_cons_zero, Act.put, List.setIfInBounds_toArray, List.set_cons_zero, List.set_cons_succ]
                  refine reg_take (i := 14) (v := undef) rfl (by kernel_rfl) (by kernel_rfl) (by kernel_rfl) (fun _ _ _ h => h) (Or.inr ⟨by kernel_rfl, rfl⟩) hS ?_
                  try simp only [List.getElem_toArray, List.getElem_cons_succ, List.getElem_cons_zero, Act.put, List.setIfInBounds_toArray, List.set_cons_zero, List.set_cons_succ]
                  refine reg_take (i := 15) (v := undef) rfl (by kernel_rfl) (by kernel_rfl) (by kernel_rfl) (fun _ _ _ h => h) (Or.inr ⟨by kernel_rfl, rfl⟩) hS ?_
                  try simp only [List.getElem_toArray, List.getElem_cons_succ, List.getElem_cons_zero, Act.put, List.setIfInBounds_toArray, List.set_cons_zero, List.set_cons_succ]
                  refine reg_take (i := 16) (v := ?_) rfl (by kernel_rfl) (by kernel_rfl) (by kernel_rfl) (fun _ _ _ h => h) (Or.inl ⟨by kernel_rfl, ?_⟩) hS ?_
                  rotate_left
                  · (intro w' hSw; go_simp <;> with_reducible rfl)
                  try simp only [List.getElem_toArray, List.getElem_cons_succ, List.getElem_cons_zero, Act.put, List.setIfInBounds_toArray, List.set_cons_zero, List.set_cons_succ]
                  refine reg_call (i := 17) rfl (by kernel_rfl) (fun K hK => ?_)
                  have HK := Lib.hid hK
                  clear hK
                  go_simp
                  refine (twrong_any (H9.out.1).re true).mono ?_
                  rintro e wz ⟨rfl, hz'⟩
                  obtain ⟨ez, hez, hnz⟩ : ∃ ez : Int, (if true = true ∧ e8 = 0 then (11 : Int) else e8) = ez ∧ ((ez = 0 ∧ N = some (x, some (l, s), p8)) ∨ ((ez = 10 ∨ ez = 11) ∧ N = none)) := by
                    have hn := HE8.out.2
                    rw [if_neg HNE.out] at hn
                    exact ⟨11, by simp [HE8.out.1], .inr ⟨.inr rfl, hn⟩⟩
                  rw [hez] at hz'
                  have hz := (H9.out.1).on hz'
                  have hyz : Blk wz y 118 #[.int .i64 (l : Nat), .int .i64 (s : Nat)] := (HYB.out).keeps hz'.keep (fun e => by have := HY.out; omega)
                  have HZ := Lib.hid (And.intro hz (And.intro hyz hnz))
                  clear hz hz' hyz hnz hez
                  go_wp2_with fail
                  refine HK.out.to (NR2 t y (wl o) (wt o) l s) (fun _ h => h) (nr2_of HZ.out.1 HZ.out.2.1) ?_
                  clear HK hS
                  have hS : (NR2 t y (wl o) (wt o) l s) (wz) := nr2_of HZ.out.1 HZ.out.2.1
                  try simp only [List.getElem_toArray, List.getElem_cons_succ, List.getElem_cons_zero, Act.put, List.setIfInBounds_toArray, List.set_cons_zero, List.set_cons_succ]
                  refine wpAnyH_done (by kernel_rfl) ?_ _
                  try simp only [List.getElem_toArray, List.getElem_cons_succ, List.getElem_cons_zero]
                  try simp only [List.getElem_toArray, List.getElem_cons_succ, List.getElem_cons_zero, Act.put, List.setIfInBounds_toArray, List.set_cons_zero, List.set_cons_succ]
                  have y0 : wz.cell? ⟨y, 0, none⟩ = some (.int .i64 (l : Nat)) := hS.2.1
                  have y1 : wz.cell? ⟨y, 1, none⟩ = some (.int .i64 (s : Nat)) := hS.2.2
                  have z1 : wz.cell? ⟨t, 1, none⟩ = some (.int .i64 (wl o)) := hS.1.1
                  have z2 : wz.cell? ⟨t, 2, none⟩ = some (.int .i64 (wt o)) := hS.1.2
                  have f1 := HZ.out.1.fz 1
                  have f2 := HZ.out.1.fz 2
                  clear hS
                  go_wp2_with fail
                  go_ret
                  exact ⟨x, some (l, s), ez, p8, rfl, H8.out.2.2.2.1, HZ.out.1.setO l s, HZ.out.2.2⟩
                · obtain rfl : la = l := by omega
                  clear hne hn0
                  refine reg_take (i := 7) (v := ?_) rfl (by kernel_rfl) (by kernel_rfl) (by kernel_rfl) (fun _ _ _ h => h) (Or.inl ⟨by kernel_rfl, ?_⟩) hS ?_
                  rotate_left
                  · (intro w' hSw; go_simp <;> with_reducible rfl)
                  try simp only [List.getElem_toArray, List.getElem_cons_succ, List.getElem_cons_zero, Act.put, List.setIfInBounds_toArray, List.set_cons_zero, List.set_cons_succ]
                  refine reg_take (i := 8) (v := ?_) rfl (by kernel_rfl) (by kernel_rfl) (by kernel_rfl) (fun _ _ _ h => h) (Or.inl ⟨by kernel_rfl, ?_⟩) hS ?_
                  rotate_left
                  · (intro w' hSw; go_simp <;> with_reducible rfl)
                  try simp only [List.getElem_toArray, List.getElem_cons_succ, List.getElem_cons_zero, Act.put, List.setIfInBounds_toArray, List.set_cons_zero, List.set_cons_succ]
                  refine reg_take (i := 9) (v := ?_) rfl (by kernel_rfl) (by kernel_rfl) (by kernel_rfl) (fun _ _ _ h => h) (Or.inl ⟨by kernel_rfl, ?_⟩) hS ?_
                  rotate_left
                  · (intro w' hSw; go_simp <;> with_reducible rfl)
                  try simp only [List.getElem_toArray, List.getElem_cons_succ, List.getElem_cons_zero, Act.put, List.setIfInBounds_toArray, List.set_cons_zero, List.set_cons_succ]
                  refine reg_take (i := 10) (v := undef) rfl (by kernel_rfl) (by kernel_rfl) (by kernel_rfl) (fun _ _ _ h => h) (Or.inr ⟨by kernel_rfl, rfl⟩) hS ?_
                  try simp only [List.getElem_toArray, List.getElem_cons_succ, List.getElem_cons_zero, Act.put, List.setIfInBounds_toArray, List.set_cons_zero, List.set_cons_succ]
                  refine reg_take (i := 11) (v := undef) rfl (by kernel_rfl) (by kernel_rfl) (by kernel_rfl) (fun _ _ _ h => h) (Or.inr ⟨by kernel_rfl, rfl⟩) hS ?_
                  try simp only [List.getElem_toArray, List.getElem_cons_succ, List.getElem_cons_zero, Act.put, List.setIfInBounds_toArray, List.set_cons_zero, List.set_cons_succ]
                  refine reg_take (i := 12) (v := undef) rfl (by kernel_rfl) (by kernel_rfl) (by kernel_rfl) (fun _ _ _ h => h) (Or.inr ⟨by kernel_rfl, rfl⟩) hS ?_
                  try simp only [List.getElem_toArray, List.getElem_cons_succ, List.getElem_cons_zero, Act.put, List.setIfInBounds_toArray, List.set_cons_zero, List.set_cons_succ]
                  refine reg_take (i := 13) (v := undef) rfl (by kernel_rfl) (by kernel_rfl) (by kernel_rfl) (fun _ _ _ h => h) (Or.inr ⟨by kernel_rfl, rfl⟩) hS ?_
                  try simp only [List.getElem_toArray, List.getElem_cons_succ, List.getElem_cons_zero, Act.put, List.setIfInBounds_toArray, List.set_cons_zero, List.set_cons_succ]
                  refine reg_take (i := 14) (v := undef) rfl (by kernel_rfl) (by kernel_rfl) (by kernel_rfl) (fun _ _ _ h => h) (Or.inr ⟨by kernel_rfl, rfl⟩) hS ?_
                  try simp only [List.getElem_toArray, List.getElem_cons_succ, List.getElem_cons_zero, Act.put, List.setIfInBounds_toArray, List.set_cons_zero, List.set_cons_succ]
                  refine reg_take (i := 15) (v := undef) rfl (by kernel_rfl) (by kernel_rfl) (by kernel_rfl) (fun _ _ _ h => h) (Or.inr ⟨by kernel_rfl, rfl⟩) hS ?_
                  try simp only [List.getElem_toArray, List.getElem_cons_succ, List.getElem_cons_zero, Act.put, List.setIfInBounds_toArray, List.set_cons_zero, List.set_cons_succ]
                  refine reg_take (i := 16) (v := ?_) rfl (by kernel_rfl) (by kernel_rfl) (by kernel_rfl) (fun _ _ _ h => h) (Or.inl ⟨by kernel_rfl, ?_⟩) hS ?_
                  rotate_left
                  · (intro w' hSw; go_simp <;> with_reducible rfl)
                  try simp only [List.getElem_toArray, List.getElem_cons_succ, List.getElem_cons_zero, Act.put, List.setIfInBounds_toArray, List.set_cons_zero, List.set_cons_succ]
                  refine reg_call (i := 17) rfl (by kernel_rfl) (fun K hK => ?_)
                  have HK := Lib.hid hK
                  clear hK
                  go_simp
                  refine (twrong_any (H9.out.1).re true).mono ?_
                  rintro e wz ⟨rfl, hz'⟩
                  obtain ⟨ez, hez, hnz⟩ : ∃ ez : Int, (if true = true ∧ e8 = 0 then (11 : Int) else e8) = ez ∧ ((ez = 0 ∧ N = some (x, some (la, s), p8)) ∨ ((ez = 10 ∨ ez = 11) ∧ N = none)) := by
                    have hn := HE8.out.2
                    rw [if_neg HNE.out] at hn
                    exact ⟨11, by simp [HE8.out.1], .inr ⟨.inr rfl, hn⟩⟩
                  rw [hez] at hz'
                  have hz := (H9.out.1).on hz'
                  have hyz : Blk wz y 118 #[.int .i64 (la : Nat), .int .i64 (s : Nat)] := (HYB.out).keeps hz'.keep (fun e => by have := HY.out; omega)
                  have HZ := Lib.hid (And.intro hz (And.intro hyz hnz))
                  clear hz hz' hyz hnz hez
                  go_wp2_with fail
                  refine HK.out.to (NR2 t y (wl o) (wt o) la s) (fun _ h => h) (nr2_of HZ.out.1 HZ.out.2.1) ?_
                  clear HK hS
                  have hS : (NR2 t y (wl o) (wt o) la s) (wz) := nr2_of HZ.out.1 HZ.out.2.1
                  try simp only [List.getElem_toArray, List.getElem_cons_succ, List.getElem_cons_zero, Act.put, List.setIfInBounds_toArray, List.set_cons_zero, List.set_cons_succ]
                  refine wpAnyH_done (by kernel_rfl) ?_ _
                  try simp only [List.getElem_toArray, List.getElem_cons_succ, List.getElem_cons_zero]
                  try simp only [List.getElem_toArray, List.getElem_cons_succ, List.getElem_cons_zero, Act.put, List.setIfInBounds_toArray, List.set_cons_zero, List.set_cons_succ]
                  have y0 : wz.cell? ⟨y, 0, none⟩ = some (.int .i64 (la : Nat)) := hS.2.1
                  have y1 : wz.cell? ⟨y, 1, none⟩ = some (.int .i64 (s : Nat)) := hS.2.2
                  have z1 : wz.cell? ⟨t, 1, none⟩ = some (.int .i64 (wl o)) := hS.1.1
                  have z2 : wz.cell? ⟨t, 2, none⟩ = some (.int .i64 (wt o)) := hS.1.2
                  have f1 := HZ.out.1.fz 1
                  have f2 := HZ.out.1.fz 2
                  clear hS
                  go_wp2_with fail
                  go_ret
                  exact ⟨x, some (la, s), ez, p8, rfl, H8.out.2.2.2.1, HZ.out.1.setO la s, HZ.out.2.2⟩
          · have HO := Lib.hid hn
            clear hn H5
            go_wp2_with fail
            go_ret
            exact ⟨0, o, 10, p5, rfl, by omega, H6.out, .inr ⟨.inl rfl, HO.out⟩⟩
        · have dl : decide ((64 : Int) < (l : Int) + (mm : Int)) = true := by simp; omega
          go_wp2_with fail
          refine (twrong_any H5.out.1 true).mono ?_
          rintro e w6 ⟨rfl, h6⟩
          obtain ⟨e6, he6, hc6⟩ : ∃ e6 : Int, (if true = true ∧ e5 = 0 then (11 : Int) else e5) = e6 ∧ ((e6 = 10 ∨ e6 = 11) ∧ N = none) := by
            rcases H5.out.2 with ⟨rfl, hn⟩ | ⟨rfl, hn⟩
            · unfold newY at hn
              rw [if_neg hlm] at hn
              exact ⟨11, by simp, .inr rfl, hn⟩
            · exact ⟨10, by simp, .inl rfl, hn⟩
          rw [he6] at h6
          have d3 := h6.c3
          have hz : ¬ e6 = 0 := by omega
          have H6 := Lib.hid (And.intro h6 hc6)
          clear h6 wl1 wm1 hmi dl he6 hc6
          go_wp2_with fail
          go_ret
          exact ⟨0, o, e6, p5, rfl, by omega, H6.out.1, .inr H6.out.2⟩
  · rw [tget_end q1] at h1
    rw [tget_end q1]
    simp only [] at h1
    have hn : N = none := by rw [HN.out]; unfold nextX; rw [if_neg q1]
    have H1 := Lib.hid (And.intro h1 hn)
    clear h1 hn q1
    rw [show ((0 : Nat) : Int) = 0 from rfl]
    go_wp2_with fail
    go_ret
    exact ⟨0, o, 10, p, rfl, by omega, H1.out.1, .inr ⟨.inl rfl, H1.out.2⟩⟩
end Go.Proofs.YtopbbicjbjmdnaaGreatDoor.X
namespace Go.Proofs.YtopbbicjbjmdnaaGreatDoor
open Go.RowKit
set_option linter.unusedVariables false
section
variable {P : Program} {w : World} {t e ty : TypeId} {z : Value} {bytes base n m c cap g : Nat} {xs : List Value} {D : Nat → Prop} {ad : Addr} {f : Nat → Value}

theorem run_append_kept (he : Elem1 P t e z bytes) (hown : w.ownsRow base e 1 (.slice (some ⟨g, 0, none⟩) n cap) n xs) (hsl : Sl w D (some ad) m f) (h1 : ∀ j, j < m → (f j).oneCell' = true)
    (h63 : n + m ≤ maxLen) (hbytes : (n + m) * bytes ≤ 140737488355328) (hbase : base ≤ w.heap.size) :
    ∃ v' w', (Builtin.append_ #[t, t] ty #[.slice (some ⟨g, 0, none⟩) n cap, .slice (some ad) m c]).run P w = .ok v' w' ∧ w'.ownsRow base e 1 v' (n + m) (xs ++ (List.range m).map f) ∧ w.grownBy w' (some g) ∧
      (v'.ownBlock = some g ∨ v'.ownBlock = some w.heap.size) ∧ ∀ j u, xs[j]? = some u → w'.cell? ⟨g, j, none⟩ = some u := by
  have hcells : ∀ j u, ((List.range m).map f)[j]? = some u → w.cell? (ad.add j) = some u := by
    intro j u hu
    rcases Nat.eq_zero_or_pos m with h0 | h0
    · subst h0
      simp at hu
    · obtain ⟨b, off, h, _, hc⟩ := hsl h0
      injection h with h
      subst h
      rw [List.getElem?_map] at hu
      rcases Nat.lt_or_ge j m with hj | hj
      · rw [List.getElem?_range hj] at hu
        simp at hu
        subst hu
        have hadd : (⟨b, off, none⟩ : Addr).add j = ⟨b, off + j, none⟩ := by unfold Addr.add; split <;> simp_all
        rw [hadd]
        exact hc j hj
      · rw [List.getElem?_eq_none (by simpa using hj)] at hu
        cases hu
  have hone : ∀ u ∈ (List.range m).map f, u.oneCell' = true := by
    intro u hu; rw [List.mem_map] at hu; obtain ⟨j, hj, rfl⟩ := hu; exact h1 j (by simpa using hj)
  obtain ⟨v', w', hrun, h2, h3, h5⟩ := run_append_sl (P := P) (ty := ty) (c := c) he hown hsl h1 h63 hbytes hbase
  obtain ⟨ht, hz1, i, hi, hz, hs, hb⟩ := he
  subst hb
  have hold : ∀ j u, xs[j]? = some u → w.cell? ⟨g, j, none⟩ = some u := by
    intro j u hu
    have := hown.cells (g := g) rfl j u hu
    have hadd : (⟨g, 0, none⟩ : Addr).add j = ⟨g, j, none⟩ := by rw [show (⟨g, 0, none⟩ : Addr).add j = ⟨g, 0 + j, none⟩ from by unfold Addr.add; split <;> simp_all, Nat.zero_add]
    rwa [hadd] at this
  refine ⟨v', w', hrun, h2, h3, h5, ?_⟩
  have hl1 : ((List.range m).map f).length = m * i.size := by rw [hs]; simp
  by_cases hroom : n + m ≤ cap
  · rcases hown.2 with ⟨hn, rfl⟩ | ⟨g', cap', cur, hv, hbg, hg, hnc, hcm, hcs, htake⟩
    · cases hn
    · injection hv with hv1 hv2 hv3
      injection hv1 with hv1
      injection hv1 with hv1
      subst hv1
      subst hv3
      have hr := run_append_room (P := P) w t ty e i ht hi g n cap cur hg ad m c _ hl1 hcells hone hroom (by rw [hl1, hs, hcs]; omega)
      rw [hr] at hrun
      injection hrun with hv hw
      subst hv
      intro j u hu
      have hj : j < xs.length := (List.getElem?_eq_some_iff.1 hu).1
      have := h2.cells (g := g) rfl j u (by rw [List.getElem?_append_left hj]; exact hu)
      have hadd : (⟨g, 0, none⟩ : Addr).add j = ⟨g, j, none⟩ := by rw [show (⟨g, 0, none⟩ : Addr).add j = ⟨g, 0 + j, none⟩ from by unfold Addr.add; split <;> simp_all, Nat.zero_add]
      rwa [hadd] at this
  · have hr := run_append_grow (P := P) w t ty e i z ht hi hz ⟨g, 0, none⟩ n cap xs (by rw [hs]; exact hown.1) (hown.cells (g := g) rfl) ad m c _ hl1 hcells (by omega) (by simp only [maxLen] at h63; omega) (growslice_fits (by omega) hbytes)
    rw [hr] at hrun
    injection hrun with hv hw
    subst hw
    intro j u hu
    have h := hold j u hu
    exact (World.cell?_of_block (w := w.drew) (a := ⟨g, j, none⟩) (Below.heap_alloc _ _ _ (World.block_lt_of_cell? w.drew _ h))).trans h

theorem step_append_kept {ops : Array Oper} {o : Oper} {a : Act} {K : Act → World → Prop} {Q : Exit → Act → World → Prop} {E : Prop} (he : Elem1 P t e z bytes) (hgd : o.guard = none) (s x : Operand)
    (ho : o.op = .call { callee := .builtin .append, args := #[s, x], argTypes := #[t, t] }) (hs : a.eval s = .slice (some ⟨g, 0, none⟩) n cap) (hx : a.eval x = .slice (some ad) m c)
    (hown : w.ownsRow base e 1 (.slice (some ⟨g, 0, none⟩) n cap) n xs) (hsl : Sl w D (some ad) m f) (h1 : ∀ j, j < m → (f j).oneCell' = true)
    (h63 : n + m ≤ maxLen) (hbytes : (n + m) * bytes ≤ 140737488355328) (hbase : base ≤ w.heap.size)
    (h : ∀ v' w', w'.ownsRow base e 1 v' (n + m) (xs ++ (List.range m).map f) → w.grownBy w' (some g) → (v'.ownBlock = some g ∨ v'.ownBlock = some w.heap.size) → (∀ j u, xs[j]? = some u → w'.cell? ⟨g, j, none⟩ = some u) → K (a.put o.dst v') w') :
    if Region.wanted o (yielded ops a.tmps) = true then Oper.wp P o a w K Q else E := by
  have hw : Region.wanted o (yielded ops a.tmps) = true := by simp [Region.wanted, hgd]
  rw [if_pos hw]
  obtain ⟨v', w', hrun, h2, h3, h4, h5⟩ := run_append_kept (P := P) (ty := o.type) (c := c) he hown hsl h1 h63 hbytes hbase
  unfold Oper.wp execOp
  simp only [ho, resolve, invoke, builtin, Sem.run_bind, Sem.run_pure, Result.andThen_ok, List.map_toArray, List.map_cons, List.map_nil, hs, hx, hrun]
  exact h v' w' h2 h3 h4 h5
end
end Go.Proofs.YtopbbicjbjmdnaaGreatDoor
namespace Go.Proofs.YtopbbicjbjmdnaaGreatDoor.X
set_option maxRecDepth 100000
open Go.RowKit
set_option linter.unusedVariables false
set_option linter.unusedSimpArgs false
theorem u64Elem : Elem1 Tryz.prog 90 54 (.int .u64 0) 8 := Elem1.mk' Tryz.underlying90 rfl (by kernel_rfl)
theorem wf_u64 {z : Int} (h : (Lit.int .u64 z).wf = true) : 0 ≤ z ∧ z < 18446744073709551616 := by
  simp [Lit.wf, IntKind.min, IntKind.max, IntKind.signed, IntKind.bits] at h
  omega
theorem _root_.Go.Proofs.YtopbbicjbjmdnaaGreatDoor.IsRow.u64s {w : World} {a : Option Addr} {len cap : Nat} {zs : List Int} (h : IsRow .u64 w a len cap zs) (m : Nat) (hm : m ≤ len) :
    ∃ f : Nat → Nat, (∀ j, f j < 18446744073709551616) ∧ Sl w (fun x => x < w.heap.size) a m (fun j => .int .u64 (f j : Nat)) := by
  refine ⟨fun j => if j < len then (zs.getD j 0).toNat else 0, fun j => ?_, (h.sl m hm).congr fun j hj => ?_⟩
  · dsimp only
    split
    · rename_i hj
      have := wf_u64 (h.wf j hj)
      omega
    · omega
  · have := wf_u64 (h.wf j (by omega))
    dsimp only
    rw [if_pos (by omega : j < len)]
    congr 1
    omega
set_option maxHeartbeats 400000 in
theorem xencode_big (w : World) (A : Option Addr) (len c : Nat) (hlen : 4096 < len) (hl : len ≤ 9223372036854775807) :
    Calls Tryz.prog 38 #[.slice A len c] w fun e w' => e = .returned (.tuple #[.slice none 0 0, .int .i64 3]) ∧ w = w' := by
  go_enter Tryz.func38, Tryz.ntmps38
  go_wp2
  go_step3
  go_wp2
  rw [Exit.noGoto_ret]
  go_ret2
  exact ⟨rfl, rfl⟩
end Go.Proofs.YtopbbicjbjmdnaaGreatDoor.X
