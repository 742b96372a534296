/-
  The contracts of xorval's taker: get, wrong.
-/
import Derived.Test.YtllmdgbaidkmfaaXorEn
import Derived.Test.YtllmdgbaidkmfaaBitsFit
namespace Go.Proofs.Ytllmdgbaidkmfaa
open Go.RowKit
set_option linter.unusedVariables false
set_option linter.unusedSimpArgs false
def wl (o : Option (Nat × Nat)) : Int := match o with
  | none => -1
  | some p => (p.1 : Nat)
def wt (o : Option (Nat × Nat)) : Int := match o with
  | none => -1
  | some p => (p.2 : Nat)
/-- The taker at block t: its reader at r, its window o, its error e, its place p. -/
structure Tk (w wr : World) (t r : Nat) (D : Nat → Prop) (bs : List Nat) (en : Nat) (o : Option (Nat × Nat)) (e : Int) (p : Nat) : Prop where
  rd : Rd wr r D bs p en
  blk : Blk wr t 59 #[.pointer (some ⟨r, 0, none⟩), .int .i64 (wl o), .int .i64 (wt o), .int .i64 e]
  keep : Keeps (fun k => k = r ∨ k = t) w wr
  ne : r ≠ t
  nd : ¬ D t
namespace Tk
variable {w wr w' : World} {t r : Nat} {D : Nat → Prop} {bs : List Nat} {en : Nat} {o : Option (Nat × Nat)} {e : Int} {p : Nat}
theorem below (h : Tk w wr t r D bs en o e p) (hb : Below wr.heap.size wr w') : Tk w w' t r D bs en o e p :=
  ⟨h.rd.below hb, h.blk.below hb h.blk.lt, h.keep.trans' (Keeps.of_below hb), h.ne, h.nd⟩
theorem drew (h : Tk w wr t r D bs en o e p) : Tk w wr.drew t r D bs en o e p := ⟨h.rd.drewN 1, h.blk.drew, h.keep.drew, h.ne, h.nd⟩
theorem drewN (h : Tk w wr t r D bs en o e p) (k : Nat) : Tk w (wr.drewN k) t r D bs en o e p := ⟨h.rd.drewN k, h.blk.drewN k, h.keep.drewN k, h.ne, h.nd⟩
theorem c0 (h : Tk w wr t r D bs en o e p) : wr.cell? ⟨t, 0, none⟩ = some (.pointer (some ⟨r, 0, none⟩)) := by simpa using h.blk.cell 0
theorem c1 (h : Tk w wr t r D bs en o e p) : wr.cell? ⟨t, 1, none⟩ = some (.int .i64 (wl o)) := by simpa using h.blk.cell 1
theorem c2 (h : Tk w wr t r D bs en o e p) : wr.cell? ⟨t, 2, none⟩ = some (.int .i64 (wt o)) := by simpa using h.blk.cell 2
theorem c3 (h : Tk w wr t r D bs en o e p) : wr.cell? ⟨t, 3, none⟩ = some (.int .i64 e) := by simpa using h.blk.cell 3
theorem fz (h : Tk w wr t r D bs en o e p) (i : Nat) : wr.frozen? ⟨t, i, none⟩ = false := h.blk.frozen i
theorem setE (h : Tk w wr t r D bs en o e p) (e' : Int) : Tk w (wr.setCell ⟨t, 3, none⟩ (.int .i64 e')) t r D bs en o e' p := by
  have hk : Keeps (fun k => k = t) wr (wr.setCell ⟨t, 3, none⟩ (.int .i64 e')) := (Keeps.refl (fun k => k = t) wr).setCell (p := ⟨t, 3, none⟩) (fun _ => rfl) _
  refine ⟨h.rd.keeps hk (fun e => h.ne e) (fun k hk e => h.nd (e ▸ hk)), ?_, h.keep.trans hk (fun k _ e => .inr e), h.ne, h.nd⟩
  simpa using h.blk.set 3 (.int .i64 e')
theorem setO (h : Tk w wr t r D bs en o e p) (l m : Nat) : Tk w ((wr.setCell ⟨t, 1, none⟩ (.int .i64 (l : Nat))).setCell ⟨t, 2, none⟩ (.int .i64 (m : Nat))) t r D bs en (some (l, m)) e p := by
  have hk : Keeps (fun k => k = t) wr ((wr.setCell ⟨t, 1, none⟩ (.int .i64 (l : Nat))).setCell ⟨t, 2, none⟩ (.int .i64 (m : Nat))) :=
    ((Keeps.refl (fun k => k = t) wr).setCell (p := ⟨t, 1, none⟩) (fun _ => rfl) _).setCell (p := ⟨t, 2, none⟩) (fun _ => rfl) _
  refine ⟨h.rd.keeps hk (fun e => h.ne e) (fun k hk e => h.nd (e ▸ hk)), ?_, h.keep.trans hk (fun k _ e => .inr e), h.ne, h.nd⟩
  have hb := (h.blk.set 1 (.int .i64 (l : Nat))).set 2 (.int .i64 (m : Nat))
  simp at hb
  exact hb
theorem re (h : Tk w wr t r D bs en o e p) : Tk wr wr t r D bs en o e p := ⟨h.rd, h.blk, Keeps.refl _ _, h.ne, h.nd⟩
theorem on {o' : Option (Nat × Nat)} {e' : Int} {p' : Nat} (h : Tk w wr t r D bs en o e p) (h' : Tk wr w' t r D bs en o' e' p') : Tk w w' t r D bs en o' e' p' := ⟨h'.rd, h'.blk, h.keep.trans' h'.keep, h'.ne, h'.nd⟩
theorem read (h : Tk w wr t r D bs en o e p) {p' : Nat} (hr : Rd w' r D bs p' en) (hk : Keeps (fun k => k = r) wr w') : Tk w w' t r D bs en o e p' :=
  ⟨hr, h.blk.keeps hk (fun e => h.ne e.symm), h.keep.trans hk (fun k _ e => .inl e), h.ne, h.nd⟩
end Tk
/-- What get gives: the bits, the error, the place behind. -/
def tget (bs : List Nat) (en : Nat) (e : Int) (p n : Nat) : Nat × Int × Nat := if e = 0 then (if p + n ≤ en then (gets bs p n, 0, p + n) else (0, 10, p)) else (0, e, p)
def TGetPost (w : World) (t r : Nat) (D : Nat → Prop) (bs : List Nat) (en : Nat) (o : Option (Nat × Nat)) (g : Nat × Int × Nat) (e : Ending) (w' : World) : Prop :=
  e = .returned (.int .u64 (g.1 : Nat)) ∧ Tk w w' t r D bs en o g.2.1 g.2.2
set_option maxHeartbeats 400000 in
theorem tget_any {w wr : World} {t r : Nat} {D : Nat → Prop} {bs : List Nat} {en : Nat} {o : Option (Nat × Nat)} {e : Int} {p : Nat} (h : Tk w wr t r D bs en o e p) (n : Nat) (hn : n ≤ 64) :
    Calls Try.prog 24 #[.pointer (some ⟨t, 0, none⟩), .int .i64 (n : Nat)] wr (TGetPost w t r D bs en o (tget bs en e p n)) := by
  have c0 := h.c0
  have c3 := h.c3
  have HH := Lib.hid h
  clear h
  by_cases he : e = 0
  · subst he
    go_enter Try.func24, Try.ntmps24
    go_wp2_with fail
    refine (get_any _ _ _ _ _ _ _ HH.out.rd).mono ?_
    rintro e w2 ⟨rfl, hr2, hk2⟩
    by_cases hp : p + n ≤ en
    · have g1 : getV bs p en n = gets bs p n := by unfold getV; rw [if_pos (by omega)]; rfl
      have g2 : getE p en n = 0 := by unfold getE; rw [if_pos (by omega), if_pos (by omega)]
      have g3 : getN p en n = n := by unfold getN; rw [if_pos (by omega)]; rfl
      rw [g3] at hr2
      rw [g1, g2]
      have h2 := HH.out.read hr2 hk2
      have f3 := h2.fz 3
      have d3 := h2.c3
      have hg : tget bs en 0 p n = (gets bs p n, 0, p + n) := by unfold tget; rw [if_pos rfl, if_pos hp]
      obtain ⟨v, hv⟩ : ∃ v, v = gets bs p n := ⟨_, rfl⟩
      rw [← hv] at hg
      rw [← hv]
      have H2 := Lib.hid (And.intro h2 hg)
      clear h2 hg hr2 hk2 g1 g2 g3 hp hv c0 c3
      go_wp2_with fail
      go_ret
      rw [H2.out.2]
      exact ⟨rfl, H2.out.1.setE 0⟩
    · have g1 : getV bs p en n = 0 := by unfold getV; rw [if_neg (by omega)]
      have g2 : getE p en n = 10 := by unfold getE; rw [if_pos (by omega), if_neg (by omega)]
      have g3 : getN p en n = 0 := by unfold getN; rw [if_neg (by omega)]
      rw [g3] at hr2
      rw [g1, g2]
      have h2 := HH.out.read hr2 hk2
      have f3 := h2.fz 3
      have d3 := h2.c3
      have hg : tget bs en 0 p n = (0, 10, p) := by unfold tget; rw [if_pos rfl, if_neg hp]
      have H2 := Lib.hid (And.intro h2 hg)
      clear h2 hg hr2 hk2 g1 g2 g3 hp c0 c3
      go_wp2_with fail
      go_ret
      rw [H2.out.2]
      exact ⟨rfl, H2.out.1.setE 10⟩
  · have hg : tget bs en e p n = (0, e, p) := by unfold tget; rw [if_neg he]
    rw [hg]
    go_enter Try.func24, Try.ntmps24
    go_wp2_with fail
    go_ret
    exact ⟨rfl, HH.out⟩
def TWrongPost (w : World) (t r : Nat) (D : Nat → Prop) (bs : List Nat) (en : Nat) (o : Option (Nat × Nat)) (e' : Int) (p : Nat) (e : Ending) (w' : World) : Prop :=
  e = .returned (.tuple #[]) ∧ Tk w w' t r D bs en o e' p
set_option maxHeartbeats 400000 in
theorem twrong_any {w wr : World} {t r : Nat} {D : Nat → Prop} {bs : List Nat} {en : Nat} {o : Option (Nat × Nat)} {e : Int} {p : Nat} (h : Tk w wr t r D bs en o e p) (b : Bool) :
    Calls Try.prog 27 #[.pointer (some ⟨t, 0, none⟩), .bool b] wr (TWrongPost w t r D bs en o (if b = true ∧ e = 0 then 11 else e) p) := by
  have c3 := h.c3
  have f3 := h.fz 3
  have HH := Lib.hid h
  clear h
  cases b with
  | false =>
    rw [if_neg (by simp)]
    go_enter Try.func27, Try.ntmps27
    go_wp2_with fail
    refine bodyPost_end (v := .tuple #[]) (by simp [results, Try.results27, go_sem]) rfl ?_
    exact ⟨rfl, HH.out⟩
  | true =>
    by_cases he : e = 0
    · subst he
      rw [if_pos ⟨rfl, rfl⟩]
      go_enter Try.func27, Try.ntmps27
      go_wp2_with fail
      refine bodyPost_end (v := .tuple #[]) (by simp [results, Try.results27, go_sem]) rfl ?_
      exact ⟨rfl, HH.out.setE 11⟩
    · rw [if_neg (by simp [he])]
      go_enter Try.func27, Try.ntmps27
      go_wp2_with fail
      refine bodyPost_end (v := .tuple #[]) (by simp [results, Try.results27, go_sem]) rfl ?_
      exact ⟨rfl, HH.out⟩
end Go.Proofs.Ytllmdgbaidkmfaa
