/-
  The contract of delta.Decode's closure.
-/
import Derived.Test.YtgphdigcilbnlaaDeltaD
namespace Go.Proofs.Ytgphdigcilbnlaa
open Go.RowKit
set_option linter.unusedVariables false
set_option linter.unusedSimpArgs false
def intZ (n : Int) : Value := .int .i64 n
def I64 (n : Int) : Prop := -9223372036854775808 ≤ n ∧ n ≤ 9223372036854775807
def i64of (u : Nat) : Int := if u < 9223372036854775808 then (u : Int) else (u : Int) - 18446744073709551616
theorem i64of_range {u : Nat} (h : u < 18446744073709551616) : I64 (i64of u) := by unfold i64of I64; split <;> omega
theorem wrap64_of {u : Nat} (h : u < 18446744073709551616) : wrap64 (u : Int) = i64of u := by
  unfold i64of
  unfold wrap64
  try simp only [IntKind.wrap_i64]
  split <;> omega
theorem i64wrap_of {u : Nat} (h : u < 18446744073709551616) : IntKind.i64.wrap (u : Int) = i64of u := by
  unfold i64of
  rw [IntKind.wrap_i64]
  split <;> omega
/-- The next time, behind 'out', with the step: it, the error, the step and the place behind. -/
def nextR (bs : List Nat) (en : Nat) (out : List Int) (step : Int) (p : Nat) : Int × Int × Int × Nat :=
  if out.length = 0 then (if p + 64 ≤ en then (i64of (gets bs p 64), 0, step, p + 64) else (0, 10, step, p))
  else (add64 (out.getD (out.length - 1) 0) (add64 step (takeR bs en p).1), (takeR bs en p).2.1, add64 step (takeR bs en p).1, (takeR bs en p).2.2)
def NextPost (w : World) (r : Nat) (D : Nat → Prop) (bs : List Nat) (en gs : Nat) (m : Int × Int × Int × Nat) (e : Ending) (w' : World) : Prop :=
  e = .returned (.tuple #[.int .i64 m.1, .int .i64 m.2.1]) ∧ Rd w' r D bs m.2.2.2 en ∧ Blk w' gs 3 #[.int .i64 m.2.2.1] ∧ Keeps (fun k => k = r ∨ k = gs) w w'
theorem add64_I (a b : Int) : I64 (add64 a b) := by unfold add64 I64; omega
theorem add_same (a b : Int) (w : World) (ha : I64 a) (hb : I64 b) :
    Calls Try.prog 48 #[.int .i64 a, .int .i64 b] w fun e w' => e = .returned (.int .i64 (add64 a b)) ∧ w' = w :=
  (add_any a b w ha.1 ha.2 hb.1 hb.2).mono fun _ _ ⟨h, k⟩ => ⟨h, k.symm⟩
theorem row_sl {w : World} {B : Nat} {A : Option Addr} {n c : Nat} {out : List Int} (hn : out.length = n) (h : w.ownsRow B 3 1 (.slice A n c) n (out.map intZ)) : Sl w (fun k => (Value.slice A n c).ownBlock = some k) A n (fun j => .int .i64 (out.getD j 0)) := by
  refine Sl.of_own h ?_
  intro j u hu
  rw [List.getElem?_map] at hu
  cases hj : out[j]? with
  | none => rw [hj] at hu; cases hu
  | some x => rw [hj] at hu; injection hu with hu; rw [List.getD_eq_getElem?_getD, hj]; exact hu.symm
set_option maxRecDepth 100000 in
set_option maxHeartbeats 1600000 in
theorem next_first (w : World) (r : Nat) (D : Nat → Prop) (bs : List Nat) (p en B go gr gs : Nat) (v : Value) (step : Int)
    (h : Rd w r D bs p en) (hr : Blk w gr 24 #[.pointer (some ⟨r, 0, none⟩)]) (ho : Blk w go 23 #[v]) (hs : Blk w gs 3 #[.int .i64 step]) (hrow : w.ownsRow B 3 1 v 0 []) :
    Calls Try.prog 46 #[.pointer (some ⟨go, 0, none⟩), .pointer (some ⟨gr, 0, none⟩), .pointer (some ⟨gs, 0, none⟩)] w (NextPost w r D bs en gs (nextR bs en [] step p)) := by
  obtain ⟨A, c, rfl, -, -⟩ := own_form hrow
  have c1 := hr.cell 0
  have c2 := ho.cell 0
  simp at c1 c2
  have HH := Lib.hid (And.intro h hs)
  clear h hr ho hs hrow
  have d0 : (((0 : Nat) : Int) == 0) = true := rfl
  go_enter Try.func46, Try.ntmps46
  go_wp2_with fail
  refine (get_any _ _ _ _ _ _ _ HH.out.1).mono ?_
  rintro e w1 ⟨rfl, hr1, hk1⟩
  clear c1 c2
  have hne : gs ≠ r := by
    obtain ⟨A', c', hb, -⟩ := HH.out.1.blk
    exact fun e => (hb.ne HH.out.2 (by decide)) e.symm
  by_cases hfit : p + 64 ≤ en
  · obtain ⟨g1, g2, g3⟩ := get_some bs p en 64 hfit (by omega)
    have hz := gets_64 bs p 64 (by omega)
    rw [show (64 : Int) = ((64 : Nat) : Int) from rfl, g3] at hr1
    rw [show (64 : Int) = ((64 : Nat) : Int) from rfl, g1, g2]
    obtain ⟨z, hzz⟩ : ∃ z, z = gets bs p 64 := ⟨_, rfl⟩
    rw [← hzz] at hz
    rw [← hzz]
    have H1 := Lib.hid (And.intro hr1 (And.intro hk1 (And.intro hzz (And.intro hz (And.intro hfit hne)))))
    clear hr1 hk1 hzz g1 g2 g3 hfit hne hz
    go_wp2_with fail
    go_ret2
    obtain ⟨h1, h2, h3, h4, h5, h6⟩ := H1.out
    unfold nextR
    rw [if_pos (by rfl), if_pos h5, ← h3]
    refine ⟨?_, h1, HH.out.2.keeps h2 h6, h2.mono fun _ _ h => .inl h⟩
    first
    | (rw [wrap64_of h4]; rfl)
    | (rw [i64wrap_of h4]; rfl)
  · obtain ⟨g1, g2, g3⟩ := get_none bs p en 64 (by omega) (by omega) (by omega)
    rw [g3] at hr1
    rw [g1, g2]
    have H1 := Lib.hid (And.intro hr1 (And.intro hk1 (And.intro hfit hne)))
    clear hr1 hk1 g1 g2 g3 hfit hne
    go_wp2_with fail
    go_ret2
    obtain ⟨h1, h2, h5, h6⟩ := H1.out
    unfold nextR
    rw [if_pos (by rfl), if_neg h5]
    exact ⟨rfl, h1, HH.out.2.keeps h2 h6, h2.mono fun _ _ h => .inl h⟩
set_option maxRecDepth 100000 in
set_option maxHeartbeats 1600000 in
theorem next_more (w : World) (r : Nat) (D : Nat → Prop) (bs : List Nat) (p en B go gr gs m : Nat) (v : Value) (out : List Int) (step : Int)
    (h : Rd w r D bs p en) (hr : Blk w gr 24 #[.pointer (some ⟨r, 0, none⟩)]) (ho : Blk w go 23 #[v]) (hs : Blk w gs 3 #[.int .i64 step]) (hn : out.length = m + 1) (hrow : w.ownsRow B 3 1 v (m + 1) (out.map intZ))
    (hB : gs < B) (hout : ∀ j, I64 (out.getD j 0)) (hst : I64 step) (hD : ¬ D gs) (hm : m ≤ 4096) :
    Calls Try.prog 46 #[.pointer (some ⟨go, 0, none⟩), .pointer (some ⟨gr, 0, none⟩), .pointer (some ⟨gs, 0, none⟩)] w (NextPost w r D bs en gs (nextR bs en out step p)) := by
  obtain ⟨A, c, rfl, -, -⟩ := own_form hrow
  obtain ⟨A', c', hbr, -⟩ := h.blk
  have n1 : gs ≠ r := fun e => (hbr.ne hs (by decide)) e.symm
  have n2 : go ≠ r := fun e => (hbr.ne ho (by decide)) e.symm
  have n3 : gs ≠ go := fun e => (hs.ne ho (by decide)) e
  have n4 : ∀ g, (Value.slice A (m + 1) c).ownBlock = some g → g ≠ r := fun g hg e => own_ne hrow hbr (by decide) (by rw [hg, e])
  have n5 : ∀ g, (Value.slice A (m + 1) c).ownBlock = some g → B ≤ g := fun g hg => (hrow.lt g hg).1
  have c1 := hr.cell 0
  have c2 := ho.cell 0
  simp at c1 c2
  have c2' : w.cell? ⟨go, 0, none⟩ = some (.slice A (m + 1) c) := c2
  have HH := Lib.hid (And.intro h (And.intro hs (And.intro ho (And.intro hrow (And.intro hn (And.intro hout (And.intro hst (And.intro n1 (And.intro n2 (And.intro n3 (And.intro n4 (And.intro n5 hD))))))))))))
  clear h hr ho hs hrow hn hout hst n1 n2 n3 n4 n5 hD hbr
  have d0 : (((m : Int) + 1) == 0) = false := by simp; omega
  go_enter Try.func46, Try.ntmps46
  go_wp2_with fail
  refine (take_any _ _ _ _ _ _ HH.out.1).mono ?_
  rintro e w1 ⟨rfl, hr1, hk1⟩
  obtain ⟨t, ht⟩ : ∃ t, t = takeR bs en p := ⟨_, rfl⟩
  have htr := takeR_range bs en p
  rw [← ht] at hr1 htr
  rw [← ht]
  obtain ⟨d, er, q⟩ := t
  simp only [] at hr1 htr
  obtain ⟨h, hs, ho, hrow, hn, hout, hst, n1, n2, n3, n4, n5, hD⟩ := HH.out
  have hs1 := hs.keeps hk1 n1
  have ho1 := ho.keeps hk1 n2
  have hrow1 := own_keeps hrow hk1 n4
  have cs1 := hs1.cell 0
  have fs1 := hs1.frozen 0
  simp at cs1 fs1
  have H1 := Lib.hid (And.intro hr1 (And.intro hk1 (And.intro ht (And.intro htr (And.intro hs1 (And.intro ho1 hrow1))))))
  clear h hs ho hrow hn hout hst n1 n2 n3 n4 n5 hD hr1 hk1 ht htr hs1 ho1 hrow1 c1 c2 c2' d0
  go_wp2_with fail
  refine (add_any _ _ _ HH.out.2.2.2.2.2.2.1.1 HH.out.2.2.2.2.2.2.1.2 H1.out.2.2.2.1.1 H1.out.2.2.2.1.2).mono ?_
  rintro e w2 ⟨rfl, rfl⟩
  obtain ⟨s2, hs2⟩ : ∃ s2, s2 = add64 step d := ⟨_, rfl⟩
  have hs2r := add64_I step d
  rw [← hs2] at hs2r
  rw [← hs2]
  have HS2 := Lib.hid (And.intro hs2 hs2r)
  clear hs2 hs2r
  go_wp2_with fail
  obtain ⟨h, hs, ho, hrow, hn, hout, hst, n1, n2, n3, n4, n5, hD⟩ := HH.out
  obtain ⟨hr1, hk1, ht, htr, hs1, ho1, hrow1⟩ := H1.out
  obtain ⟨w3, hw3⟩ : ∃ w3, w3 = w1.setCell ⟨gs, 0, none⟩ (.int .i64 s2) := ⟨_, rfl⟩
  rw [← hw3]
  have k3 : Keeps (fun k => k = gs) w1 w3 := by rw [hw3]; exact (Keeps.refl (fun k => k = gs) w1).setCell (p := ⟨gs, 0, none⟩) (fun _ => rfl) _
  have hs3 : Blk w3 gs 3 #[.int .i64 s2] := by rw [hw3]; simpa using hs1.set 0 (.int .i64 s2)
  have ho3 := ho1.keeps k3 (fun e => n3 e.symm)
  have hrow3 := own_keeps hrow1 k3 (fun g hg e => by have := n5 g hg; omega)
  have hr3 : Rd w3 r D bs q en := hr1.keeps k3 (fun e => n1 e.symm) (fun k hk e => hD (e ▸ hk))
  obtain ⟨b, off, hA, -, hcell⟩ := row_sl hn hrow3 (by omega)
  subst hA
  have cl : w3.cell? ⟨b, off + m, none⟩ = some (.int .i64 (out.getD m 0)) := hcell m (by omega)
  have c3s := hs3.cell 0
  have c3o := ho3.cell 0
  simp at c3s c3o
  have hlr := hout m
  obtain ⟨la, hla⟩ : ∃ la, la = out.getD m 0 := ⟨_, rfl⟩
  rw [← hla] at hlr cl
  have H3 := Lib.hid (And.intro hr3 (And.intro hs3 (And.intro k3 (And.intro hla (And.intro hlr hn)))))
  clear h hs ho hrow hn hout hst n1 n2 n3 n4 n5 hD hr1 hk1 ht htr hs1 ho1 hrow1 hw3 k3 hs3 ho3 hrow3 hr3 hcell hla hlr cs1 fs1
  have ejw : IntKind.i64.wrap ((m : Int) + 1 - 1) = (m : Int) := by rw [IntWalk.i64_in _ (by omega)]; omega
  have ejw2 : (m : Int) + 1 - 1 = (m : Int) := by omega
  have ejw3 : IntKind.i64.wrap (m : Int) = (m : Int) := IntWalk.i64_in _ (by omega)
  have ejw4 : ((m : Int)).toNat = m := by omega
  have hj2 : (0 : Int) ≤ (m : Int) := by omega
  have hj3 : (m : Int) < (m : Int) + 1 := by omega
  go_quiet ((go_at_call 48; exact Calls.quiet_of_same (add_same _ _ _ H3.out.2.2.2.2.1 HS2.out.2)))
  clear ejw ejw2 ejw3 ejw4
  go_wp2_with fail
  go_ret2
  obtain ⟨hr1, hk1, ht, htr, hs1, ho1, hrow1⟩ := H1.out
  obtain ⟨hr3, hs3, k3, hla, hlr, hn⟩ := H3.out
  unfold nextR
  rw [if_neg (by omega), ← ht, show out.length - 1 = m by omega, ← hla]
  refine ⟨?_, hr3.drewN _, ?_, ?_⟩
  · rw [HS2.out.1]; rfl
  · rw [← HS2.out.1]; exact hs3.drewN _
  · exact ((hk1.mono fun _ _ h => .inl h).trans' (k3.mono fun _ _ h => .inr h)).drewN _
end Go.Proofs.Ytgphdigcilbnlaa
