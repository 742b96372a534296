/-
  Texts of this proof, joined: ColB, CrcPl, FrmA, FrmC, BitPl, BitsRd, Pack, BitsWr.
-/
import Derived.Test.YtopbbicjbjmdnaaGreatDoorJ01
import Derived.Test.YtopbbicjbjmdnaaGreatDoorJ02
import Derived.Great.BuildSlice
import Derived.Below
import Derived.Laws.BitsAllLaws
import Derived.Laws.BitsLemmas
import Derived.Test.YtopbbicjbjmdnaaGreatDoorRows
import Derived.WalkKit
import Derived.WalkSpells
import Derived.WalkLawsBesides
import Derived.Deep.QuietTactic
import Derived.BigQuiet
import Derived.Outline
import Derived.Lib.Hide
import Derived.Laws.EntriesVeiled
import Derived.StillTailTactics
import Derived.Deep.DeepCutAuto
import Derived.BigRegion
namespace Go.Proofs.YtopbbicjbjmdnaaGreatDoor
open Go.RowKit
set_option linter.unusedVariables false
set_option linter.unusedSimpArgs false
def upd {α : Type} (f : Fin 3 → α) (c : Fin 3) (u : α) : Fin 3 → α := fun d => if d = c then u else f d
theorem upd_same {α : Type} (f : Fin 3 → α) (c : Fin 3) (u : α) : upd f c u c = u := by unfold upd; rw [if_pos rfl]
theorem upd_ne {α : Type} (f : Fin 3 → α) {c d : Fin 3} (u : α) (h : d ≠ c) : upd f c u d = f d := by unfold upd; rw [if_neg h]
/-- Three rows of the call's own, in three blocks. -/
structure R3 (e : Fin 3 → TypeId) (w0 w : World) (x : Nat) (v : Fin 3 → Value) (l : Fin 3 → List Value) : Prop where
  own : ∀ c, w.ownsRow x (e c) 1 (v c) (l c).length (l c)
  dis : ∀ c d, c ≠ d → ∀ g, (v c).ownBlock = some g → (v d).ownBlock ≠ some g
  keep : Keeps (fun _ => False) w0 w
  base : w0.heap.size ≤ x
  size : x ≤ w.heap.size
variable {e : Fin 3 → TypeId} {w0 w w' : World} {x : Nat} {v z : Fin 3 → Value} {l : Fin 3 → List Value}
theorem grown_keeps {v : Value} (hg : w.grownBy w' v.ownBlock) : Keeps (fun k => v.ownBlock = some k) w w' := (Keeps.refl _ w).grown hg (fun k hk _ => hk)
theorem R3.alloc (h : R3 e w0 w x v l) (o : Obj) : R3 e w0 (w.alloc o) x v l :=
  ⟨fun c => (h.own c).alloc o, h.dis, h.keep.alloc o, h.base, by simp; have := h.size; omega⟩
theorem R3.drew (h : R3 e w0 w x v l) : R3 e w0 w.drew x v l := ⟨fun c => own_keeps (h.own c) ((Keeps.refl (fun _ => False) w).drew) (fun _ _ h => h), h.dis, h.keep.drew, h.base, h.size⟩
theorem R3.keeps (h : R3 e w0 w x v l) (hk : Keeps (fun _ => False) w w') : R3 e w0 w' x v l :=
  ⟨fun c => own_keeps (h.own c) hk (fun _ _ h => h), h.dis, h.keep.trans' hk, h.base, Nat.le_trans h.size hk.size⟩
theorem R3.lt (h : R3 e w0 w x v l) (c : Fin 3) {g : Nat} (hg : (v c).ownBlock = some g) : x ≤ g ∧ g < w.heap.size := (h.own c).lt g hg
theorem R3.start (e : Fin 3 → TypeId) (hk : Keeps (fun _ => False) w0 w) : R3 e w0 w w.heap.size (fun _ => .slice none 0 0) (fun _ => []) :=
  ⟨fun c => ⟨rfl, .inl ⟨rfl, rfl⟩⟩, fun _ _ _ g hg => by simp [Value.ownBlock] at hg, hk, hk.size, Nat.le_refl _⟩
theorem R3.grow (h : R3 e w0 w x v l) (c : Fin 3) {v' u : Value} (hown : w'.ownsRow x (e c) 1 v' ((l c).length + 1) (l c ++ [u])) (hg : w.grownBy w' (v c).ownBlock) (hb : v'.ownBlock = (v c).ownBlock ∨ v'.ownBlock = some w.heap.size) :
    R3 e w0 w' x (upd v c v') (upd l c (l c ++ [u])) := by
  have hk := grown_keeps hg
  refine ⟨fun d => ?_, fun c1 d1 hne g hg1 hg2 => ?_, h.keep.trans hk (fun k hk e => by have := (h.lt c e).1; have := h.base; omega), h.base, Nat.le_trans h.size hk.size⟩
  · by_cases hd : d = c
    · subst hd
      rw [upd_same, upd_same, List.length_append]
      exact hown
    · rw [upd_ne _ _ hd, upd_ne _ _ hd]
      exact own_keeps (h.own d) hk (fun g hg e => h.dis d c hd g hg e)
  · by_cases h1 : c1 = c
    · subst h1
      rw [upd_same] at hg1
      rw [upd_ne _ _ (Ne.symm hne)] at hg2
      rcases hb with hb | hb
      · exact h.dis c1 d1 hne g (by rw [← hb]; exact hg1) hg2
      · rw [hb] at hg1; injection hg1 with hg1; have := (h.lt d1 hg2).2; omega
    · rw [upd_ne _ _ h1] at hg1
      by_cases h2 : d1 = c
      · subst h2
        rw [upd_same] at hg2
        rcases hb with hb | hb
        · exact h.dis c1 d1 hne g hg1 (by rw [← hb]; exact hg2)
        · rw [hb] at hg2; injection hg2 with hg2; have := (h.lt c1 hg1).2; omega
      · rw [upd_ne _ _ h2] at hg2
        exact h.dis c1 d1 hne g hg1 hg2
/-- How far an append has come: not begun; its one cell built; appended. -/
inductive Sg
  | z
  | b (q : Nat)
  | r (q : Nat) (v : Value)
def Sg.row (v : Value) : Sg → Value
  | .r _ v' => v'
  | _ => v
def Sg.lst (l : List Value) (z : Value) : Sg → List Value
  | .r _ _ => l ++ [z]
  | _ => l
def oneAt (q : Nat) : Value := .slice (some ⟨q, 0, none⟩) 1 1
structure W3 (e : Fin 3 → TypeId) (w0 : World) (x : Nat) (v z : Fin 3 → Value) (l : Fin 3 → List Value) (y : Nat) (Y : Option Obj) (s : Fin 3 → Sg) (w : World) : Prop where
  r : R3 e w0 w x (fun c => (s c).row (v c)) (fun c => (s c).lst (l c) (z c))
  cel : ∀ c q, s c = .b q → w.cell? ⟨q, 0 + 0, none⟩ = some (z c) ∧ ∀ d g, ((s d).row (v d)).ownBlock = some g → g ≠ q
  yk : w.heap[y]? = Y
  yn : ∀ d g, ((s d).row (v d)).ownBlock = some g → g ≠ y
  yl : y < w.heap.size
variable {y : Nat} {Y : Option Obj} {s : Fin 3 → Sg}
theorem row_b {v : Fin 3 → Value} {s : Fin 3 → Sg} {c : Fin 3} (hs : s c = .z) (q : Nat) : (fun d => (upd s c (.b q) d).row (v d)) = fun d => (s d).row (v d) := by
  funext d
  by_cases h : d = c
  · subst h; rw [upd_same, hs]; rfl
  · rw [upd_ne _ _ h]
theorem lst_b {l : Fin 3 → List Value} {z : Fin 3 → Value} {s : Fin 3 → Sg} {c : Fin 3} (hs : s c = .z) (q : Nat) : (fun d => (upd s c (.b q) d).lst (l d) (z d)) = fun d => (s d).lst (l d) (z d) := by
  funext d
  by_cases h : d = c
  · subst h; rw [upd_same, hs]; rfl
  · rw [upd_ne _ _ h]
theorem row_r {v : Fin 3 → Value} (s : Fin 3 → Sg) (c : Fin 3) (q : Nat) (v' : Value) : (fun d => (upd s c (.r q v') d).row (v d)) = upd (fun d => (s d).row (v d)) c v' := by
  funext d
  by_cases h : d = c
  · subst h; rw [upd_same, upd_same]; rfl
  · rw [upd_ne _ _ h, upd_ne _ _ h]
theorem lst_r {l : Fin 3 → List Value} {z : Fin 3 → Value} {s : Fin 3 → Sg} {c : Fin 3} {q : Nat} (hs : s c = .b q) (v' : Value) : (fun d => (upd s c (.r q v') d).lst (l d) (z d)) = upd (fun d => (s d).lst (l d) (z d)) c ((s c).lst (l c) (z c) ++ [z c]) := by
  funext d
  by_cases h : d = c
  · subst h; rw [upd_same, upd_same, hs]; rfl
  · rw [upd_ne _ _ h, upd_ne _ _ h]
theorem W3.bld (h : W3 e w0 x v z l y Y s w) {c : Fin 3} (hs : s c = .z) (t : TypeId) : W3 e w0 x v z l y Y (upd s c (.b w.heap.size)) (w.alloc (.cells #[z c] t)) := by
  have er := row_b (v := v) hs w.heap.size
  have er' : ∀ d, (upd s c (.b w.heap.size) d).row (v d) = (s d).row (v d) := fun d => congrFun er d
  refine ⟨?_, fun d q hq => ?_, ?_, fun d g hg => ?_, by simp; have := h.yl; omega⟩
  · rw [er, lst_b hs]
    exact h.r.alloc _
  · have hg : ∀ d' g, ((upd s c (.b w.heap.size) d').row (v d')).ownBlock = some g → x ≤ g ∧ g < w.heap.size := fun d' g hg => by rw [er' d'] at hg; exact h.r.lt d' hg
    by_cases hd : d = c
    · subst hd
      rw [upd_same] at hq
      injection hq with hq
      subst hq
      exact ⟨cell_one w t (z d) 0 (by omega), fun d' g hg' => by have := (hg d' g hg').2; omega⟩
    · rw [upd_ne _ _ hd] at hq
      obtain ⟨h1, h2⟩ := h.cel d q hq
      exact ⟨(World.cell?_alloc_lt w _ _ (World.block_lt_of_cell? w _ h1)).trans h1, fun d' g hg' => h2 d' g (by rw [er' d'] at hg'; exact hg')⟩
  · rw [← h.yk]; exact Below.heap_alloc _ _ _ h.yl
  · rw [er' d] at hg; exact h.yn d g hg
theorem W3.app (h : W3 e w0 x v z l y Y s w) {c : Fin 3} {q : Nat} (hs : s c = .b q) {v' : Value} (hown : w'.ownsRow x (e c) 1 v' (((s c).lst (l c) (z c)).length + 1) ((s c).lst (l c) (z c) ++ [z c])) (hg : w.grownBy w' ((s c).row (v c)).ownBlock)
    (hb : v'.ownBlock = ((s c).row (v c)).ownBlock ∨ v'.ownBlock = some w.heap.size) : W3 e w0 x v z l y Y (upd s c (.r q v')) w' := by
  have hk := grown_keeps hg
  have er := row_r (v := v) s c q v'
  have er' : ∀ d, (upd s c (.r q v') d).row (v d) = upd (fun d => (s d).row (v d)) c v' d := fun d => congrFun er d
  have hrow : ∀ d g, ((upd s c (.r q v') d).row (v d)).ownBlock = some g → (∃ d', ((s d').row (v d')).ownBlock = some g) ∨ g = w.heap.size := fun d g hg' => by
    rw [er' d] at hg'
    by_cases hd : d = c
    · subst hd
      rw [upd_same] at hg'
      rcases hb with hb | hb
      · exact .inl ⟨d, by rw [← hb]; exact hg'⟩
      · rw [hb] at hg'; injection hg' with hg'; exact .inr hg'.symm
    · rw [upd_ne _ _ hd] at hg'; exact .inl ⟨d, hg'⟩
  refine ⟨?_, fun d q2 hq => ?_, ?_, fun d g hg' => ?_, Nat.lt_of_lt_of_le h.yl hk.size⟩
  · rw [er, lst_r hs]
    exact h.r.grow c hown hg hb
  · by_cases hd : d = c
    · subst hd; rw [upd_same] at hq; cases hq
    · rw [upd_ne _ _ hd] at hq
      obtain ⟨h1, h2⟩ := h.cel d q2 hq
      have hlt := World.block_lt_of_cell? w _ h1
      refine ⟨(World.cell?_of_block (w := w) (a := ⟨q2, 0 + 0, none⟩) (hk.block q2 hlt (fun e => h2 c q2 e rfl))).trans h1, fun d' g hg' => ?_⟩
      rcases hrow d' g hg' with ⟨d2, h3⟩ | h3
      · exact h2 d2 g h3
      · have : q2 < w.heap.size := hlt
        omega
  · rw [← h.yk]; exact hk.block y h.yl (fun e => h.yn c y e rfl)
  · rcases hrow d g hg' with ⟨d2, h3⟩ | h3
    · exact h.yn d2 g h3
    · have := h.yl; omega
theorem put_comm {a : Act} {i j : Nat} (h : i ≠ j) (u u' : Value) : (a.put (some i) u).put (some j) u' = (a.put (some j) u').put (some i) u := by
  unfold Act.put
  simp only
  rw [Array.setIfInBounds_comm _ _ h]
theorem put_eval_ne {a : Act} {i j : Nat} (h : i ≠ j) (u : Value) : (a.put (some j) u).eval (.tmp i) = a.eval (.tmp i) := by
  simp [Act.put, Act.eval, Array.getElem?_setIfInBounds, Array.getD_eq_getD_getElem?, Ne.symm h]
theorem put_eval_same {a : Act} {i : Nat} (h : i < a.tmps.size) (u : Value) : (a.put (some i) u).eval (.tmp i) = u := by
  simp [Act.put, Act.eval, Array.getElem?_setIfInBounds, Array.getD_eq_getD_getElem?, h]
theorem put_size (a : Act) (i : Nat) (u : Value) : (a.put (some i) u).tmps.size = a.tmps.size := by simp [Act.put]
def Sg.puts (tb tr : Nat) : Sg → Act → Act
  | .z, a => a
  | .b q, a => a.put (some tb) (oneAt q)
  | .r q v, a => (a.put (some tb) (oneAt q)).put (some tr) v
theorem puts_z (tb tr : Nat) (a : Act) : Sg.puts tb tr .z a = a := rfl
theorem puts_b (tb tr q : Nat) (a : Act) : Sg.puts tb tr (.b q) a = a.put (some tb) (oneAt q) := rfl
theorem puts_r (tb tr q : Nat) (v : Value) (a : Act) : Sg.puts tb tr (.r q v) a = (a.put (some tb) (oneAt q)).put (some tr) v := rfl
theorem puts_put (s : Sg) {tb tr i : Nat} (h1 : i ≠ tb) (h2 : i ≠ tr) (a : Act) (u : Value) : s.puts tb tr (a.put (some i) u) = (s.puts tb tr a).put (some i) u := by
  cases s with
  | z => rfl
  | b q => rw [puts_b, puts_b, put_comm h1]
  | r q v => rw [puts_r, puts_r, put_comm h1, put_comm h2]
theorem puts_size (s : Sg) (tb tr : Nat) (a : Act) : (s.puts tb tr a).tmps.size = a.tmps.size := by cases s <;> simp [Sg.puts, put_size]
theorem puts_eval (s : Sg) {tb tr i : Nat} (h1 : i ≠ tb) (h2 : i ≠ tr) (a : Act) : (s.puts tb tr a).eval (.tmp i) = a.eval (.tmp i) := by
  cases s <;> simp [Sg.puts, put_eval_ne h1, put_eval_ne h2]
def act3 (tb tr : Fin 3 → Nat) (s : Fin 3 → Sg) (a : Act) : Act := (s 2).puts (tb 2) (tr 2) ((s 1).puts (tb 1) (tr 1) ((s 0).puts (tb 0) (tr 0) a))
/-- The slots of the three appends are six. -/
def Six (tb tr : Fin 3 → Nat) : Prop := ∀ c d, (c ≠ d → tb c ≠ tb d ∧ tr c ≠ tr d) ∧ tb c ≠ tr d
theorem act3_bld {tb tr : Fin 3 → Nat} (h6 : Six tb tr) {s : Fin 3 → Sg} {c : Fin 3} (hs : s c = .z) (q : Nat) (a : Act) : (act3 tb tr s a).put (some (tb c)) (oneAt q) = act3 tb tr (upd s c (.b q)) a := by
  have hb := fun c d h => ((h6 c d).1 h).1
  have hr := fun c d => (h6 c d).2
  unfold act3
  match c, hs with
  | 0, hs => rw [upd_same, upd_ne _ _ (by decide), upd_ne _ _ (by decide), hs, puts_b, puts_put _ (hb 0 1 (by decide)) (hr 0 1), puts_put _ (hb 0 2 (by decide)) (hr 0 2), puts_z]
  | 1, hs => rw [upd_same, upd_ne _ _ (by decide), upd_ne _ _ (by decide), hs, puts_b, puts_put _ (hb 1 2 (by decide)) (hr 1 2), puts_z]
  | 2, hs => rw [upd_same, upd_ne _ _ (by decide), upd_ne _ _ (by decide), hs]; rfl
theorem act3_app {tb tr : Fin 3 → Nat} (h6 : Six tb tr) {s : Fin 3 → Sg} {c : Fin 3} {q : Nat} (hs : s c = .b q) (v' : Value) (a : Act) : (act3 tb tr s a).put (some (tr c)) v' = act3 tb tr (upd s c (.r q v')) a := by
  have hb := fun c d h => ((h6 c d).1 h).2
  have hr := fun c d => ((h6 c d).2).symm
  unfold act3
  match c, hs with
  | 0, hs => rw [upd_same, upd_ne _ _ (by decide), upd_ne _ _ (by decide), hs, puts_r, puts_put _ (hr 1 0) (hb 0 1 (by decide)), puts_put _ (hr 2 0) (hb 0 2 (by decide)), puts_b]
  | 1, hs => rw [upd_same, upd_ne _ _ (by decide), upd_ne _ _ (by decide), hs, puts_r, puts_put _ (hr 2 1) (hb 1 2 (by decide)), puts_b]
  | 2, hs => rw [upd_same, upd_ne _ _ (by decide), upd_ne _ _ (by decide), hs]; rfl
theorem act3_eval {tb tr : Fin 3 → Nat} (s : Fin 3 → Sg) {i : Nat} (h : ∀ c, i ≠ tb c ∧ i ≠ tr c) (a : Act) : (act3 tb tr s a).eval (.tmp i) = a.eval (.tmp i) := by
  unfold act3
  rw [puts_eval _ (h 2).1 (h 2).2, puts_eval _ (h 1).1 (h 1).2, puts_eval _ (h 0).1 (h 0).2]
theorem act3_size (tb tr : Fin 3 → Nat) (s : Fin 3 → Sg) (a : Act) : (act3 tb tr s a).tmps.size = a.tmps.size := by unfold act3; rw [puts_size, puts_size, puts_size]
theorem act3_blt {tb tr : Fin 3 → Nat} (h6 : Six tb tr) {s : Fin 3 → Sg} {c : Fin 3} {q : Nat} (hs : s c = .b q) (a : Act) (hsz : tb c < a.tmps.size) : (act3 tb tr s a).eval (.tmp (tb c)) = oneAt q := by
  have e : s = upd (upd s c .z) c (.b q) := by
    funext d
    by_cases h : d = c
    · subst h; rw [upd_same, hs]
    · rw [upd_ne _ _ h, upd_ne _ _ h]
  rw [e, ← act3_bld h6 (upd_same _ _ _), put_eval_same (by rw [act3_size]; exact hsz)]
def Sg.b1 : Sg → Bool
  | .z => false
  | _ => true
def Sg.b2 : Sg → Bool
  | .r _ _ => true
  | _ => false
def Sg.nx (i j : Nat) : Sg → List Nat
  | .z => [i]
  | .b _ => [j]
  | .r _ _ => []
/-- The same where an append waits for the one ahead of it (bb: that one is done). -/
def Sg.nxc (bb : Bool) (i j : Nat) : Sg → List Nat
  | .z => [i]
  | .b _ => if bb = true then [j] else []
  | .r _ _ => []
def cnx (jb ja : Fin 3 → Nat) (s : Fin 3 → Sg) : List Nat := (s 0).nxc true (jb 0) (ja 0) ++ ((s 1).nxc (s 0).b2 (jb 1) (ja 1) ++ (s 2).nxc (s 1).b2 (jb 2) (ja 2))
def okc (s : Fin 3 → Sg) : Prop := ((s 1).b2 = true → (s 0).b2 = true) ∧ ((s 2).b2 = true → (s 1).b2 = true)
theorem okc_bld {s : Fin 3 → Sg} (h : okc s) {c : Fin 3} (hs : s c = .z) (q : Nat) : okc (upd s c (.b q)) := by
  have e : ∀ d, (upd s c (.b q) d).b2 = (s d).b2 := fun d => by
    by_cases hd : d = c
    · subst hd; rw [upd_same, hs]; rfl
    · rw [upd_ne _ _ hd]
  unfold okc
  rw [e, e, e]
  exact h
theorem okc_app {s : Fin 3 → Sg} (h : okc s) {c : Fin 3} {q : Nat} (hs : s c = .b q) (hp : c = 0 ∨ c = 1 ∧ (s 0).b2 = true ∨ c = 2 ∧ (s 1).b2 = true) (v' : Value) : okc (upd s c (.r q v')) := by
  have hf : (s c).b2 = false := by rw [hs]; rfl
  rcases hp with rfl | ⟨rfl, hb⟩ | ⟨rfl, hb⟩
  · exact ⟨fun _ => by rw [upd_same]; rfl, fun h2 => by rw [upd_ne _ _ (by decide)] at h2 ⊢; exact h.2 h2⟩
  · exact ⟨fun _ => by rw [upd_ne _ _ (by decide)]; exact hb, fun _ => by rw [upd_same]; rfl⟩
  · exact ⟨fun h2 => by rw [upd_ne _ _ (by decide)] at h2 ⊢; exact h.1 h2, fun _ => by rw [upd_ne _ _ (by decide)]; exact hb⟩
def Sg.left : Sg → Nat
  | .z => 2
  | .b _ => 1
  | .r _ _ => 0
def left3 (s : Fin 3 → Sg) : Nat := (s 0).left + (s 1).left + (s 2).left
theorem left3_upd (s : Fin 3 → Sg) (c : Fin 3) (g : Sg) (h : g.left + 1 = (s c).left) : left3 (upd s c g) + 1 = left3 s := by
  unfold left3
  match c, h with
  | 0, h => rw [upd_same, upd_ne _ _ (by decide), upd_ne _ _ (by decide)]; omega
  | 1, h => rw [upd_same, upd_ne _ _ (by decide), upd_ne _ _ (by decide)]; omega
  | 2, h => rw [upd_same, upd_ne _ _ (by decide), upd_ne _ _ (by decide)]; omega
section
variable {P : Program} {ops : Array Oper} {Q : Exit → Act → World → Prop} {S : World → Prop}
theorem step_build {o : Oper} {a : Act} {w : World} {K : Act → World → Prop} {E : Prop} (t e : TypeId) (hgd : o.guard = none) (x : Operand) {u zz : Value} (ho : o.op = .buildSlice t 1 #[(0, x)]) (hx : a.eval x = u) (hu1 : u.oneCell' = true) {bytes : Nat}
    (he : Elem1 P t e zz bytes) (h : K (a.put o.dst (oneAt w.heap.size)) (w.alloc (.cells #[u] e))) :
    if Region.wanted o (yielded ops a.tmps) = true then Oper.wp P o a w K Q else E := by
  have hw : Region.wanted o (yielded ops a.tmps) = true := by simp [Region.wanted, hgd]
  rw [if_pos hw]
  obtain ⟨ht, hz1, i, hi, hz, hs, hb⟩ := he
  refine wp_buildSlice t e 1 #[(0, x)] ho #[u] i zz ht hi hz (by rw [hs]; decide) (by rw [hs]; decide) ?_ h
  have hone : u.cells = #[u] := by cases u <;> first | rfl | simp [Value.oneCell'] at hu1
  have h1 : ∀ A : Array Value, A.size = 1 → A.setIfInBounds 0 u = #[u] := fun A hA => by
    apply Array.ext
    · simp [hA]
    · intro j h1 h2
      have : j = 0 := by simp at h2; omega
      subst this
      simp
  simp [Instr.fill, hx, hs, hone]
  exact h1 _ (by simp)
end
/-- What the law of the three appends asks of the region. -/
structure Reg3 (P : Program) (ops : Array Oper) (tb tr : Fin 3 → Nat) (jb ja : Fin 3 → Nat) (tm tv : Fin 3 → Nat) (t e : Fin 3 → TypeId) (zz : Fin 3 → Value) (by_ : Fin 3 → Nat) (lst : (Fin 3 → Sg) → Array Bool) : Prop where
  six : Six tb tr
  elem : ∀ c, Elem1 P (t c) (e c) (zz c) (by_ c)
  bop : ∀ c, ∃ o, ops[jb c]? = some o ∧ o.guard = none ∧ o.op = .buildSlice (t c) 1 #[(0, .tmp (tv c))] ∧ o.dst = some (tb c)
  aop : ∀ c, ∃ o, ops[ja c]? = some o ∧ o.guard = none ∧ o.op = .call { callee := .builtin .append, args := #[.tmp (tm c), .tmp (tb c)], argTypes := #[t c, t c] } ∧ o.dst = some (tr c)
  off : ∀ c d, (tm c ≠ tb d ∧ tm c ≠ tr d) ∧ (tv c ≠ tb d ∧ tv c ≠ tr d)
  lb : ∀ s c q, s c = .z → (lst s).setIfInBounds (jb c) true = lst (upd s c (.b q))
  lr : ∀ s c q v', s c = .b q → (lst s).setIfInBounds (ja c) true = lst (upd s c (.r q v'))
  ready : ∀ s, okc s → 0 < left3 s → Region.ready .any ops (lst s) = cnx jb ja s
theorem run3 {P : Program} {ops : Array Oper} {Q : Exit → Act → World → Prop} {S : World → Prop} {tb tr jb ja tm tv : Fin 3 → Nat} {t : Fin 3 → TypeId} {zz : Fin 3 → Value} {by_ : Fin 3 → Nat} {lst : (Fin 3 → Sg) → Array Bool}
    (hR : Reg3 P ops tb tr jb ja tm tv t e zz by_ lst) (a : Act) (hsz : ∀ c, tb c < a.tmps.size) (hm : ∀ c, a.eval (.tmp (tm c)) = v c) (hv : ∀ c, a.eval (.tmp (tv c)) = z c) (h1 : ∀ c, (z c).oneCell' = true) (hl : ∀ c, (l c).length + 1 ≤ maxLen ∧ ((l c).length + 1) * by_ c ≤ 140737488355328)
    (hS : ∀ s w, W3 e w0 x v z l y Y s w → S w) (fuel : Nat)
    (hend : ∀ s w, left3 s = 0 → W3 e w0 x v z l y Y s w → wpAnyH P .any ops Q S fuel (lst s) (act3 tb tr s a) w) :
    ∀ m s w, left3 s = m → okc s → W3 e w0 x v z l y Y s w → wpAnyH P .any ops Q S (fuel + m) (lst s) (act3 tb tr s a) w
  | 0, s, w, hm0, _, hW => hend s w hm0 hW
  | m + 1, s, w, hm0, hok, hW => by
    have ih := run3 hR a hsz hm hv h1 hl hS fuel hend m
    have go1 : ∀ c, s c = .z → AllReadyH P .any ops Q S (fuel + m) (lst s) (act3 tb tr s a) w [jb c] := by
      intro c hs
      obtain ⟨o, ho, hgd, hop, hdst⟩ := hR.bop c
      refine AllReadyH.cons ho (fun K hK => ?_) AllReadyH.nil
      refine step_build (t c) (e c) hgd _ hop ((act3_eval s (fun d => (hR.off c d).2) a).trans (hv c)) (h1 c) (hR.elem c) ?_
      rw [hdst, act3_bld hR.six hs]
      have hW' := hW.bld hs (e c)
      refine hK.out _ _ (hS _ _ hW') (fun _ => ?_)
      rw [hR.lb s c w.heap.size hs]
      exact ih _ _ (by have := left3_upd s c (.b w.heap.size) (by rw [hs]; rfl); omega) (okc_bld hok hs _) hW'
    have go2 : ∀ c q, s c = .b q → (c = 0 ∨ c = 1 ∧ (s 0).b2 = true ∨ c = 2 ∧ (s 1).b2 = true) → AllReadyH P .any ops Q S (fuel + m) (lst s) (act3 tb tr s a) w [ja c] := by
      intro c q hs hp
      obtain ⟨o, ho, hgd, hop, hdst⟩ := hR.aop c
      refine AllReadyH.cons ho (fun K hK => ?_) AllReadyH.nil
      obtain ⟨hc, -⟩ := hW.cel c q hs
      have hown := hW.r.own c
      simp only [hs] at hown
      refine step_append_sl (A := some ⟨q, 0, none⟩) (c := 1) (D := fun _ => True) (m := 1) (f := fun _ => z c) (hR.elem c) hgd _ _ hop ((act3_eval s (fun d => (hR.off c d).1) a).trans (hm c)) (act3_blt hR.six hs a (hsz c)) hown
        (fun _ => ⟨q, 0, rfl, trivial, fun j hj => by obtain rfl : j = 0 := by omega
                                                      exact hc⟩) (fun _ _ => h1 c) (hl c).1 (hl c).2 hW.r.size ?_
      intro v' w' h2 h3 h4
      rw [hdst, act3_app hR.six hs]
      have hW' := hW.app (w' := w') (v' := v') hs (by rw [hs]; exact h2) (by rw [hs]; exact h3) (by rw [hs]; exact h4)
      refine hK.out _ _ (hS _ _ hW') (fun _ => ?_)
      rw [hR.lr s c q v' hs]
      exact ih _ _ (by have := left3_upd s c (.r q v') (by rw [hs]; rfl); omega) (okc_app hok hs hp v') hW'
    have go : ∀ c bb, (bb = true → c = 0 ∨ c = 1 ∧ (s 0).b2 = true ∨ c = 2 ∧ (s 1).b2 = true) → AllReadyH P .any ops Q S (fuel + m) (lst s) (act3 tb tr s a) w ((s c).nxc bb (jb c) (ja c)) := by
      intro c bb hbb
      cases hs : s c with
      | z => exact go1 c hs
      | b q =>
        show AllReadyH P .any ops Q S (fuel + m) (lst s) (act3 tb tr s a) w (if bb = true then [ja c] else [])
        cases bb with
        | false => exact AllReadyH.nil
        | true => exact go2 c q hs (hbb rfl)
      | r q v' => exact AllReadyH.nil
    refine wpAnyH_ready (hR.ready s hok (by omega)) ?_ ?_
    · intro h0
      unfold cnx at h0
      simp only [List.append_eq_nil_iff] at h0
      obtain ⟨g0, g1, g2⟩ := h0
      have hz : ∀ g : Sg, ∀ i j, g.nxc true i j = [] → g.left = 0 ∧ g.b2 = true := fun g i j h => by cases g <;> first | exact ⟨rfl, rfl⟩ | cases h
      have k0 := hz _ _ _ g0
      rw [k0.2] at g1
      have k1 := hz _ _ _ g1
      rw [k1.2] at g2
      have k2 := hz _ _ _ g2
      have := k0.1
      have := k1.1
      have := k2.1
      unfold left3 at hm0
      omega
    · intro i hi
      rcases List.mem_append.1 hi with h | h
      · exact go 0 true (fun _ => .inl rfl) i h
      · rcases List.mem_append.1 h with h | h
        · exact go 1 _ (fun hb => .inr (.inl ⟨rfl, hb⟩)) i h
        · exact go 2 _ (fun hb => .inr (.inr ⟨rfl, hb⟩)) i h
end Go.Proofs.YtopbbicjbjmdnaaGreatDoor
namespace Go.Proofs.YtopbbicjbjmdnaaGreatDoor.F
def gbit (s : Nat) : Nat := if s % 2 = 1 then s / 2 ^^^ 3988292384 else s / 2
def gN : Nat → Nat → Nat
  | 0, s => s
  | n + 1, s => gN n (gbit s)
theorem gN_add (a b s : Nat) : gN (a + b) s = gN b (gN a s) := by
  induction a generalizing s with
  | zero => rw [Nat.zero_add]; rfl
  | succ a ih => rw [Nat.succ_add]; exact ih (gbit s)
theorem gbit_lt {s : Nat} (h : s < 4294967296) : gbit s < 4294967296 := by
  unfold gbit
  split
  · exact Nat.xor_lt_two_pow (n := 32) (by omega) (by omega)
  · omega
theorem gN_lt (n : Nat) {s : Nat} (h : s < 4294967296) : gN n s < 4294967296 := by
  induction n generalizing s with
  | zero => exact h
  | succ n ih => exact ih (gbit_lt h)
theorem xor4 (a b p : Nat) : a ^^^ b = (a ^^^ p) ^^^ (b ^^^ p) := by
  apply Nat.eq_of_testBit_eq
  intro i
  simp only [Nat.testBit_xor]
  cases a.testBit i <;> cases b.testBit i <;> cases p.testBit i <;> rfl
theorem xor3a (a b p : Nat) : a ^^^ b ^^^ p = (a ^^^ p) ^^^ b := by
  apply Nat.eq_of_testBit_eq
  intro i
  simp only [Nat.testBit_xor]
  cases a.testBit i <;> cases b.testBit i <;> cases p.testBit i <;> rfl
theorem xor_mod2 (a b : Nat) : (a ^^^ b) % 2 = (a % 2 + b % 2) % 2 := by
  have h : (a ^^^ b) % 2 ^ 1 = a % 2 ^ 1 ^^^ b % 2 ^ 1 := Nat.xor_mod_two_pow
  simp only [Nat.pow_one] at h
  rw [h]
  rcases (show a % 2 = 0 ∨ a % 2 = 1 by omega) with e | e <;> rcases (show b % 2 = 0 ∨ b % 2 = 1 by omega) with k | k <;> rw [e, k] <;> rfl
theorem gbit_xor (a b : Nat) : gbit (a ^^^ b) = gbit a ^^^ gbit b := by
  have hm := xor_mod2 a b
  unfold gbit
  rw [Nat.xor_div_two]
  by_cases ha : a % 2 = 1
  · by_cases hb : b % 2 = 1
    · rw [if_neg (by omega), if_pos ha, if_pos hb]; exact xor4 _ _ _
    · rw [if_pos (by omega), if_pos ha, if_neg hb]; exact xor3a _ _ _
  · by_cases hb : b % 2 = 1
    · rw [if_pos (by omega), if_neg ha, if_pos hb]; exact Nat.xor_assoc _ _ _
    · rw [if_neg (by omega), if_neg ha, if_neg hb]
theorem gN_xor (n a b : Nat) : gN n (a ^^^ b) = gN n a ^^^ gN n b := by
  induction n generalizing a b with
  | zero => rfl
  | succ n ih => show gN n (gbit (a ^^^ b)) = _; rw [gbit_xor]; exact ih _ _
theorem gbit_two (x : Nat) : gbit (2 * x) = x := by unfold gbit; rw [if_neg (by omega)]; omega
theorem gN_pow (n x : Nat) : gN n (2 ^ n * x) = x := by
  induction n with
  | zero => show 2 ^ 0 * x = x; omega
  | succ n ih =>
    show gN n (gbit (2 ^ (n + 1) * x)) = x
    rw [Nat.pow_succ, Nat.mul_comm (2 ^ n) 2, Nat.mul_assoc, gbit_two]
    exact ih
theorem join_xor (n t k : Nat) (h : k < 2 ^ n) : 2 ^ n * t ^^^ k = 2 ^ n * t + k := by
  have h1 : (2 ^ n * t ^^^ k) / 2 ^ n = t := by
    rw [Nat.xor_div_two_pow, Nat.mul_div_cancel_left _ (Nat.two_pow_pos n), Nat.div_eq_of_lt h, Nat.xor_zero]
  have h2 : (2 ^ n * t ^^^ k) % 2 ^ n = k := by
    rw [Nat.xor_mod_two_pow, Nat.mul_mod_right, Nat.mod_eq_of_lt h, Nat.zero_xor]
  have h3 := Nat.div_add_mod (2 ^ n * t ^^^ k) (2 ^ n)
  rw [h1, h2] at h3
  exact h3.symm
theorem split_xor (n s : Nat) : s = 2 ^ n * (s / 2 ^ n) ^^^ s % 2 ^ n := by
  rw [join_xor n _ _ (Nat.mod_lt _ (Nat.two_pow_pos n))]
  exact (Nat.div_add_mod s (2 ^ n)).symm
theorem gN_split (n s : Nat) : gN n s = s / 2 ^ n ^^^ gN n (s % 2 ^ n) := by
  have h := split_xor n s
  have h2 : gN n s = gN n (2 ^ n * (s / 2 ^ n) ^^^ s % 2 ^ n) := by rw [← h]
  rw [h2, gN_xor, gN_pow]
/-- What a sum does with four bits. -/
def quart : List Nat := [0, 498536548, 997073096, 651767980, 1994146192, 1802195444, 1303535960, 1342533948, 3988292384, 4027552580, 3604390888, 3412177804, 2607071920, 2262029012, 2685067896, 3183342108]
theorem quart_eq (k : Nat) (h : k < 16) : gN 4 k = quart.getD k 0 := by
  rcases (show k = 0 ∨ k = 1 ∨ k = 2 ∨ k = 3 ∨ k = 4 ∨ k = 5 ∨ k = 6 ∨ k = 7 ∨ k = 8 ∨ k = 9 ∨ k = 10 ∨ k = 11 ∨ k = 12 ∨ k = 13 ∨ k = 14 ∨ k = 15 by omega) with
    rfl | rfl | rfl | rfl | rfl | rfl | rfl | rfl | rfl | rfl | rfl | rfl | rfl | rfl | rfl | rfl <;> decide
theorem gN_four (s : Nat) : s / 16 ^^^ quart.getD (s % 16) 0 = gN 4 s := by
  rw [← quart_eq _ (Nat.mod_lt _ (by omega))]
  exact (gN_split 4 s).symm
/-- The sum's state behind bytes. -/
def crcL : List Nat → Nat → Nat
  | [], s => s
  | b :: l, s => crcL l (gN 8 (s ^^^ b))
def crcS (l : List Nat) : Nat := crcL l 4294967295 ^^^ 4294967295
theorem crcL_append (l m : List Nat) (s : Nat) : crcL (l ++ m) s = crcL m (crcL l s) := by
  induction l generalizing s with
  | nil => rfl
  | cons b l ih => exact ih _
theorem crcL_lt {l : List Nat} {s : Nat} (hl : ∀ b ∈ l, b < 256) (hs : s < 4294967296) : crcL l s < 4294967296 := by
  induction l generalizing s with
  | nil => exact hs
  | cons b l ih =>
    refine ih (fun x hx => hl x (by simp [hx])) (gN_lt 8 ?_)
    have := hl b (by simp)
    exact Nat.xor_lt_two_pow (n := 32) hs (by omega)
theorem crcS_lt {l : List Nat} (hl : ∀ b ∈ l, b < 256) : crcS l < 4294967296 :=
  Nat.xor_lt_two_pow (n := 32) (crcL_lt hl (by omega)) (by omega)
/-- Bytes as a number, the lowest first. -/
def le : List Nat → Nat
  | [] => 0
  | b :: l => b + 256 * le l
theorem le_append (l m : List Nat) : le (l ++ m) = le l + 2 ^ (8 * l.length) * le m := by
  induction l with
  | nil => simp [le]
  | cons b l ih =>
    show b + 256 * le (l ++ m) = b + 256 * le l + _
    rw [ih, List.length_cons, show 8 * (l.length + 1) = 8 * l.length + 8 by omega, Nat.pow_add, show (2 : Nat) ^ 8 = 256 by decide, Nat.mul_add, ← Nat.mul_assoc, Nat.mul_comm 256 (2 ^ (8 * l.length)), Nat.add_assoc]
theorem le_lt {l : List Nat} (hl : ∀ b ∈ l, b < 256) : le l < 2 ^ (8 * l.length) := by
  induction l with
  | nil => simp [le]
  | cons b l ih =>
    have h1 := ih (fun x hx => hl x (by simp [hx]))
    have h2 := hl b (by simp)
    rw [List.length_cons, Nat.mul_add, Nat.pow_add, show (2 : Nat) ^ (8 * 1) = 256 by decide]
    show b + 256 * le l < _
    omega
theorem crcL_le {l : List Nat} (hl : ∀ b ∈ l, b < 256) (s : Nat) : crcL l s = gN (8 * l.length) (s ^^^ le l) := by
  induction l generalizing s with
  | nil => simp [crcL, le, gN]
  | cons b l ih =>
    have h2 := hl b (by simp)
    show crcL l (gN 8 (s ^^^ b)) = gN (8 * (l.length + 1)) (s ^^^ (b + 256 * le l))
    rw [ih (fun x hx => hl x (by simp [hx])), show 8 * (l.length + 1) = 8 + 8 * l.length by omega, gN_add]
    have e : b + 256 * le l = 2 ^ 8 * le l ^^^ b := by rw [join_xor 8 _ _ (by omega)]; omega
    have e2 : gN 8 (2 ^ 8 * le l ^^^ (s ^^^ b)) = gN 8 (s ^^^ b) ^^^ le l := by rw [gN_xor, gN_pow, Nat.xor_comm]
    rw [e, ← Nat.xor_assoc, Nat.xor_comm s (2 ^ 8 * le l), Nat.xor_assoc, e2]
theorem gbit_zero {s : Nat} (hs : s < 4294967296) (h : gbit s = 0) : s = 0 := by
  unfold gbit at h
  split at h
  · next e =>
    have h1 : s / 2 = 3988292384 := by
      have h2 : (s / 2 ^^^ 3988292384) ^^^ 3988292384 = 0 ^^^ 3988292384 := by rw [h]
      rw [Nat.xor_assoc, Nat.xor_self, Nat.xor_zero, Nat.zero_xor] at h2
      exact h2
    omega
  · omega
theorem gN_zero (n : Nat) {s : Nat} (hs : s < 4294967296) (h : gN n s = 0) : s = 0 := by
  induction n generalizing s with
  | zero => exact h
  | succ n ih => exact gbit_zero hs (ih (gbit_lt hs) h)
/-- A burst of at most 32 bits leaves no sum as it was. -/
theorem burst (m at_ by_ : Nat) (hb : by_ < 4294967296) (h : gN m (by_ * 2 ^ at_) = 0) : by_ = 0 := by
  rcases Nat.lt_or_ge m at_ with hm | hm
  · rw [show at_ = m + (at_ - m) by omega, Nat.pow_add, Nat.mul_comm, Nat.mul_assoc, gN_pow] at h
    have := Nat.two_pow_pos (at_ - m)
    rcases Nat.mul_eq_zero.1 h with h | h <;> omega
  · rw [show m = at_ + (m - at_) by omega, gN_add, Nat.mul_comm, gN_pow] at h
    exact gN_zero _ hb h
/-- Two frames of one length that differ by d have both their sums only if gN of d is 0. -/
theorem crc_diff {l l' c c' d : Nat} {m : Nat} (h : 2 ^ m * c ^^^ l = (2 ^ m * c' ^^^ l') ^^^ d)
    (s : gN m (4294967295 ^^^ l) ^^^ 4294967295 = c) (s' : gN m (4294967295 ^^^ l') ^^^ 4294967295 = c') : gN m d = 0 := by
  have e : d = (2 ^ m * c ^^^ l) ^^^ (2 ^ m * c' ^^^ l') := by
    rw [h, Nat.xor_comm, ← Nat.xor_assoc, Nat.xor_self, Nat.zero_xor]
  rw [e, gN_xor, gN_xor, gN_xor, gN_pow, gN_pow, ← s, ← s', gN_xor, gN_xor]
  generalize gN m 4294967295 = a
  generalize gN m l = b
  generalize gN m l' = b'
  apply Nat.eq_of_testBit_eq
  intro i
  simp only [Nat.testBit_xor, Nat.zero_testBit]
  cases a.testBit i <;> cases b.testBit i <;> cases b'.testBit i <;> cases (4294967295 : Nat).testBit i <;> rfl
end Go.Proofs.YtopbbicjbjmdnaaGreatDoor.F
namespace Go.Proofs.YtopbbicjbjmdnaaGreatDoor.F
open Go.RowKit
set_option linter.unusedVariables false
set_option linter.unusedSimpArgs false
theorem ret_int {k : IntKind} {a b : Int} (h : a = b) : Ending.returned (.int k a) = .returned (.int k b) := by rw [h]
def qv (k : Nat) : Nat := quart.getD k 0
theorem qv_lt (k : Nat) : qv k < 4294967296 := by
  unfold qv
  rcases Nat.lt_or_ge k 16 with h | h
  · rw [← quart_eq k h]; exact gN_lt 4 (by omega)
  · rw [List.getD_eq_getElem?_getD, List.getElem?_eq_none (by simpa [quart] using h)]; decide
theorem four_step (y : Nat) (hy : y < 4294967296) : bits .xor .u32 ((y : Int) / 16) (qv (y % 16) : Nat) = ((gN 4 y : Nat) : Int) := by
  rw [show (y : Int) / 16 = ((y / 16 : Nat) : Int) by omega, u32_xor_nat _ _ (by omega) (qv_lt _)]
  unfold qv
  rw [gN_four]
theorem quart_at (k : Nat) (hk : k < 16) (w : World) : (Instr.index 158 (.agg #[.int .u32 0, .int .u32 498536548, .int .u32 997073096, .int .u32 651767980, .int .u32 1994146192, .int .u32 1802195444, .int .u32 1303535960, .int .u32 1342533948, .int .u32 3988292384, .int .u32 4027552580, .int .u32 3604390888, .int .u32 3412177804, .int .u32 2607071920, .int .u32 2262029012, .int .u32 2685067896, .int .u32 3183342108]) (.int .u32 (k : Nat))).run Tryz.prog w = .ok (.int .u32 (qv k : Nat)) w := by
  rcases (show k = 0 ∨ k = 1 ∨ k = 2 ∨ k = 3 ∨ k = 4 ∨ k = 5 ∨ k = 6 ∨ k = 7 ∨ k = 8 ∨ k = 9 ∨ k = 10 ∨ k = 11 ∨ k = 12 ∨ k = 13 ∨ k = 14 ∨ k = 15 by omega) with
    rfl | rfl | rfl | rfl | rfl | rfl | rfl | rfl | rfl | rfl | rfl | rfl | rfl | rfl | rfl | rfl <;> kernel_rfl
set_option maxRecDepth 100000 in
set_option maxHeartbeats 400000 in
theorem quarter_any (s : Nat) (w : World) (hs : s < 4294967296) : Calls Tryz.prog 60 #[.int .u32 (s : Nat)] w fun e w' => e = .returned (.int .u32 (qv (s % 16) : Nat)) ∧ w = w' := by
  have e1 : bits .and .u32 (s : Int) 15 = ((s % 16 : Nat) : Int) := by rw [show (15 : Int) = ((15 : Nat) : Int) from rfl, u32_and_nat _ _ hs (by omega), nat_mask4]
  obtain ⟨k, hk⟩ : ∃ k, k = s % 16 := ⟨_, rfl⟩
  have hk16 : k < 16 := by omega
  rw [← hk] at e1
  rw [← hk]
  clear hk hs
  have ix := quart_at k hk16
  go_enter Tryz.func60, Tryz.ntmps60
  go_wp2_with fail
  go_ret
  exact ⟨rfl, rfl⟩
theorem crc_take (bs : List Nat) (k : Nat) (h : k < bs.length) : crcL (bs.take (k + 1)) 4294967295 = gN 4 (gN 4 (crcL (bs.take k) 4294967295 ^^^ bs.getD k 0)) := by
  rw [List.take_succ_eq_append_getElem h, crcL_append, List.getD_eq_getElem?_getD, List.getElem?_eq_getElem h]
  show gN 8 (_ ^^^ bs[k]) = gN 4 (gN 4 (_ ^^^ bs[k]))
  rw [← gN_add]
theorem mem_take_byte {bs : List Nat} (hb : ∀ j, bs.getD j 0 < 256) (k : Nat) : ∀ b ∈ bs.take k, b < 256 := by
  intro b hm
  obtain ⟨i, hi, rfl⟩ := List.getElem_of_mem (List.mem_of_mem_take hm)
  have := hb i
  rw [List.getD_eq_getElem?_getD, List.getElem?_eq_getElem hi] at this
  exact this
theorem mem_byte {bs : List Nat} (hb : ∀ j, bs.getD j 0 < 256) : ∀ b ∈ bs, b < 256 := by
  have := mem_take_byte hb bs.length
  rwa [List.take_length] at this
set_option maxRecDepth 100000 in
set_option maxHeartbeats 800000 in
theorem sum_any (w : World) (A : Option Addr) (len c : Nat) (D : Nat → Prop) (bs : List Nat) (hl : bs.length = len) (hsl : Sl w D A len (byteC bs)) (hb : ∀ j, bs.getD j 0 < 256) (hlen : len ≤ 2097152) :
    Calls Tryz.prog 41 #[.slice A len c] w fun e w' => e = .returned (.int .u32 (crcS bs : Nat)) ∧ w = w' := by
  have HS := Lib.hid (And.intro hl (And.intro hsl hb))
  clear hl hsl hb
  go_enter Tryz.func41, Tryz.ntmps41
  go_wp2_with fail
  go_loopw [3, 8] (fun s i wr => ∃ k : Nat, k ≤ len ∧ i = .int .i64 k ∧ s = .int .u32 (crcL (bs.take k) 4294967295 : Nat) ∧ w = wr) (fun _ i _ => len - (intOf i).toNat)
  case atStart => exact ⟨0, Nat.zero_le _, rfl, rfl, rfl⟩
  case round =>
    obtain ⟨k, hk, rfl, rfl, rfl⟩ := hrel
    have hsl := crcL_lt (s := 4294967295) (mem_take_byte HS.out.2.2 k) (by omega)
    obtain ⟨s, hs⟩ : ∃ s, s = crcL (bs.take k) 4294967295 := ⟨_, rfl⟩
    rw [← hs] at hsl
    rw [← hs]
    by_cases hlt : k < len
    · obtain ⟨b, off, hA, -, hc⟩ := HS.out.2.1 (by omega)
      have ck : w.cell? ⟨b, off + k, none⟩ = some (.int .u8 (bs.getD k 0 : Nat)) := hc k hlt
      subst hA
      have hx := HS.out.2.2 k
      obtain ⟨x, hxx⟩ : ∃ x, x = bs.getD k 0 := ⟨_, rfl⟩
      rw [← hxx] at hx ck
      have e0 : bits .xor .u32 (s : Int) (x : Int) = ((s ^^^ x : Nat) : Int) := u32_xor_nat _ _ hsl (by omega)
      have hsx : s ^^^ x < 4294967296 := Nat.xor_lt_two_pow (n := 32) hsl (by omega)
      obtain ⟨y, hy⟩ : ∃ y, y = s ^^^ x := ⟨_, rfl⟩
      rw [← hy] at e0 hsx
      have HY := Lib.hid (And.intro hy (And.intro hs (And.intro hxx hsx)))
      clear hc hs hxx hy
      go_wp2_with fail
      refine (quarter_any y _ HY.out.2.2.2).mono ?_
      rintro e w2 ⟨rfl, rfl⟩
      have e1 := four_step y HY.out.2.2.2
      have hg1 := gN_lt 4 HY.out.2.2.2
      have e2 := four_step (gN 4 y) hg1
      obtain ⟨z, hz⟩ : ∃ z, z = gN 4 y := ⟨_, rfl⟩
      rw [← hz] at e1 e2 hg1
      have HZ := Lib.hid (And.intro hz (And.intro e2 hg1))
      clear hz e2 e0
      go_wp2_with fail
      refine (quarter_any z _ HZ.out.2.2).mono ?_
      rintro e w2 ⟨rfl, rfl⟩
      have e2 := HZ.out.2.1
      obtain ⟨u, hu⟩ : ∃ u, u = gN 4 z := ⟨_, rfl⟩
      rw [← hu] at e2
      have HU := Lib.hid hu
      clear hu e1
      go_wp2_with fail
      go_roundw
      case rel =>
        refine ⟨k + 1, by omega, by go_num, ?_, by trivial⟩
        obtain ⟨hl, -, -⟩ := HS.out
        rw [crc_take bs k (by omega), ← HY.out.2.1, ← HY.out.2.2.1, ← HY.out.1, ← HZ.out.1, ← HU.out]
      case measure => simp [intOf]; omega
    · have e0 : bits .xor .u32 (s : Int) 4294967295 = ((crcS bs : Nat) : Int) := by
        rw [show (4294967295 : Int) = ((4294967295 : Nat) : Int) from rfl, u32_xor_nat _ _ hsl (by omega), hs]
        obtain ⟨hl, -, -⟩ := HS.out
        rw [List.take_of_length_le (by omega)]
        rfl
      clear hs
      go_wp2_with fail
      go_ret
      exact ⟨rfl, rfl⟩
/-- The four bytes of a number, the lowest first. -/
def fourL (u : Nat) : List Nat := [u % 256, u / 256 % 256, u / 65536 % 256, u / 16777216 % 256]
def FourPost (w : World) (u : Nat) (e : Ending) (w' : World) : Prop :=
  e = .returned (.agg #[.int .u8 ((u : Int) % 256), .int .u8 ((u : Int) / 256 % 256), .int .u8 ((u : Int) / 65536 % 256), .int .u8 ((u : Int) / 16777216 % 256)]) ∧ Below w.heap.size w w'
set_option maxRecDepth 100000 in
set_option maxHeartbeats 800000 in
theorem four_any (u : Nat) (w : World) (hu : u < 4294967296) : Calls Tryz.prog 40 #[.int .u32 (u : Nat)] w (FourPost w u) := by
  go_enter Tryz.func40, Tryz.ntmps40
  go_wp2_with fail
  have hb := Blk.fresh w 95 #[.int .u8 ((u : Int) % 256), .int .u8 ((u : Int) / 256 % 256), .int .u8 ((u : Int) / 65536 % 256), .int .u8 ((u : Int) / 16777216)]
  have bel := (Below.refl w.heap.size w).alloc (Nat.le_refl _) (.cells #[.int .u8 ((u : Int) % 256), .int .u8 ((u : Int) / 256 % 256), .int .u8 ((u : Int) / 65536 % 256), .int .u8 ((u : Int) / 16777216)] 95)
  generalize w.alloc (.cells #[.int .u8 ((u : Int) % 256), .int .u8 ((u : Int) / 256 % 256), .int .u8 ((u : Int) / 65536 % 256), .int .u8 ((u : Int) / 16777216)] 95) = w2 at hb bel ⊢
  have r0 := hb.cell 0
  have r1 := hb.cell 1
  have r2 := hb.cell 2
  have r3 := hb.cell 3
  simp at r0 r1 r2 r3
  refine bodyPost_ret (v := .agg #[.int .u8 ((u : Int) % 256), .int .u8 ((u : Int) / 256 % 256), .int .u8 ((u : Int) / 65536 % 256), .int .u8 ((u : Int) / 16777216)]) (by simp [results, Tryz.results40, go_sem, r0, r1, r2, r3]) rfl ⟨?_, bel⟩
  rw [show (u : Int) / 16777216 % 256 = (u : Int) / 16777216 by omega]
theorem sl_four (w : World) (g u : Nat) (h : Blk w g 95 #[.int .u8 ((u : Int) % 256), .int .u8 ((u : Int) / 256 % 256), .int .u8 ((u : Int) / 65536 % 256), .int .u8 ((u : Int) / 16777216 % 256)]) : Sl w (fun k => k = g) (some ⟨g, 0, none⟩) 4 (byteC (fourL u)) := fun _ =>
  ⟨_, _, rfl, rfl, fun j hj => by
    rw [h.cell (0 + j)]
    rcases (show j = 0 ∨ j = 1 ∨ j = 2 ∨ j = 3 by omega) with rfl | rfl | rfl | rfl
    · show some (Value.int .u8 ((u : Int) % 256)) = some (.int .u8 ((u % 256 : Nat) : Int)); rw [show ((u % 256 : Nat) : Int) = (u : Int) % 256 by omega]
    · show some (Value.int .u8 ((u : Int) / 256 % 256)) = some (.int .u8 ((u / 256 % 256 : Nat) : Int)); rw [show ((u / 256 % 256 : Nat) : Int) = (u : Int) / 256 % 256 by omega]
    · show some (Value.int .u8 ((u : Int) / 65536 % 256)) = some (.int .u8 ((u / 65536 % 256 : Nat) : Int)); rw [show ((u / 65536 % 256 : Nat) : Int) = (u : Int) / 65536 % 256 by omega]
    · show some (Value.int .u8 ((u : Int) / 16777216 % 256)) = some (.int .u8 ((u / 16777216 % 256 : Nat) : Int)); rw [show ((u / 16777216 % 256 : Nat) : Int) = (u : Int) / 16777216 % 256 by omega]⟩
theorem fourL_byte (u : Nat) : ∀ b ∈ fourL u, b < 256 := by
  intro b hb
  simp only [fourL, List.mem_cons, List.not_mem_nil, or_false] at hb
  omega
theorem le_four (u : Nat) (hu : u < 4294967296) : le (fourL u) = u := by
  show u % 256 + 256 * (u / 256 % 256 + 256 * (u / 65536 % 256 + 256 * (u / 16777216 % 256 + 256 * 0))) = u
  omega
end Go.Proofs.YtopbbicjbjmdnaaGreatDoor.F
namespace Go.Proofs.YtopbbicjbjmdnaaGreatDoor.F
open Go.RowKit
set_option linter.unusedVariables false
set_option linter.unusedSimpArgs false
def byteV (b : Nat) : Value := .int .u8 (b : Int)
theorem byteElem : Elem1 Tryz.prog 25 5 (.int .u8 0) 1 := Elem1.mk' Tryz.underlying25 rfl (by kernel_rfl)
theorem range_bytes {bs : List Nat} {len : Nat} (hl : bs.length = len) : (List.range len).map (byteC bs) = bs.map byteV := by
  subst hl
  apply List.ext_getElem (by simp)
  intro j h1 h2
  simp at h1
  simp [byteC, byteV, List.getD_eq_getElem?_getD, List.getElem?_eq_getElem h1]
def bodyL (kind : Nat) (bs : List Nat) : List Nat := kind :: (fourL bs.length ++ bs)
def sealL (kind : Nat) (bs : List Nat) : List Nat := bodyL kind bs ++ fourL (crcS (bodyL kind bs))
theorem bodyL_byte {kind : Nat} {bs : List Nat} (hk : kind < 256) (hb : ∀ j, bs.getD j 0 < 256) : ∀ b ∈ bodyL kind bs, b < 256 := by
  intro b hm
  unfold bodyL at hm
  simp only [List.mem_cons, List.mem_append] at hm
  rcases hm with rfl | hm | hm
  · exact hk
  · exact fourL_byte _ b hm
  · exact mem_byte hb b hm
theorem bodyL_length (kind : Nat) (bs : List Nat) : (bodyL kind bs).length = bs.length + 5 := by simp [bodyL, fourL]
theorem sealL_length (kind : Nat) (bs : List Nat) : (sealL kind bs).length = bs.length + 9 := by unfold sealL; rw [List.length_append, bodyL_length]; simp [fourL]
theorem getD_of_mem {bs : List Nat} (h : ∀ b ∈ bs, b < 256) (j : Nat) : bs.getD j 0 < 256 := by
  rw [List.getD_eq_getElem?_getD]
  rcases Nat.lt_or_ge j bs.length with hj | hj
  · rw [List.getElem?_eq_getElem hj]; exact h _ (List.getElem_mem _)
  · rw [List.getElem?_eq_none hj]; decide
theorem sealL_byte {kind : Nat} {bs : List Nat} (hk : kind < 256) (hb : ∀ j, bs.getD j 0 < 256) : ∀ b ∈ sealL kind bs, b < 256 := by
  intro b hm
  unfold sealL at hm
  rcases List.mem_append.1 hm with hm | hm
  · exact bodyL_byte hk hb b hm
  · exact fourL_byte _ b hm
theorem four_fit (z : Int) (u : Nat) (w : World) (hz : z = (u : Nat)) (hu : u < 4294967296) : Calls Tryz.prog 40 #[.int .u32 z] w (FourPost w u) := by
  subst hz
  exact four_any u w hu
theorem own_sl {w : World} {base : Nat} {A : Option Addr} {n c : Nat} {bs : List Nat} (hn : bs.length = n) (h : w.ownsRow base 5 1 (.slice A n c) n (bs.map byteV)) : Sl w (fun k => (Value.slice A n c).ownBlock = some k) A n (byteC bs) := by
  refine Sl.of_own h ?_
  intro j u hu
  rw [List.getElem?_map] at hu
  cases hj : bs[j]? with
  | none => rw [hj] at hu; cases hu
  | some x => rw [hj] at hu; injection hu with hu; unfold byteC; rw [List.getD_eq_getElem?_getD, hj]; exact hu.symm
theorem blk_grown {w w' : World} {g : Nat} {t e : TypeId} {cs : Array Value} {base n : Nat} {v : Value} {xs : List Value} (h : Blk w g t cs) (ho : w.ownsRow base e 1 v n xs) (hne : e ≠ t) (hg : w.grownBy w' v.ownBlock) : Blk w' g t cs :=
  (hg.block g h.lt (fun e' => own_ne ho h hne e'.symm)).trans h
theorem keeps_grown {w0 w w' : World} {e : TypeId} {n : Nat} {v : Value} {xs : List Value} (hk : Keeps (fun _ => False) w0 w) (ho : w.ownsRow w0.heap.size e 1 v n xs) (hg : w.grownBy w' v.ownBlock) : Keeps (fun _ => False) w0 w' :=
  hk.grown hg (fun k hk' hlt => by have := (ho.lt k hk').1; omega)
def BytesPost (w : World) (bs : List Nat) (er : Int) (e : Ending) (w' : World) : Prop :=
  ∃ A c, e = .returned (.tuple #[.slice A bs.length c, .int .i64 er]) ∧ w'.ownsRow w.heap.size 5 1 (.slice A bs.length c) bs.length (bs.map byteV) ∧ Keeps (fun _ => False) w w'
set_option maxRecDepth 100000 in
set_option maxHeartbeats 1600000 in
theorem seal_ok (w : World) (kind : Nat) (A : Option Addr) (len c : Nat) (D : Nat → Prop) (bs : List Nat) (hl : bs.length = len) (hsl : Sl w D A len (byteC bs)) (hb : ∀ j, bs.getD j 0 < 256) (hk : kind < 256) (hlen : len ≤ 1048576) :
    Calls Tryz.prog 21 #[.int .u8 (kind : Nat), .slice A len c] w (BytesPost w (sealL kind bs) 0) := by
  have HS := Lib.hid (And.intro hl (And.intro hsl (And.intro hb hk)))
  clear hl hsl hb hk
  obtain ⟨ht, -, i, hi, hz, hs1, hby⟩ := byteElem
  have HI := Lib.hid (And.intro ht (And.intro hi (And.intro hz (And.intro hs1 hby))))
  clear ht hi hz hs1 hby
  have d0 : decide ((1048576 : Int) < (len : Int)) = false := by simp; omega
  go_enter Tryz.func21, Tryz.ntmps21
  go_wp2_with fail
  refine (four_fit _ len _ (by first | rfl | omega | (rw [IntKind.wrap_u32']; omega)) (by omega)).mono ?_
  rintro e w1 ⟨rfl, hb1⟩
  clear d0
  have H1 := Lib.hid hb1
  clear hb1
  go_wp2_with (at_make; refine wpList_make_own _ rfl _ _ 25 rfl w.heap.size 5 i (.int .u8 0) 1 HI.out.1 HI.out.2.1 HI.out.2.2.1 HI.out.2.2.2.1 .i64 .i64 ((len : Int) + 9) (len + 9) rfl rfl (by omega) ?hb2 ?hb3 ?hb4 ?_)
  case hb2 => rw [HI.out.2.2.2.2]; omega
  case hb3 => unfold maxLen; omega
  case hb4 => have := H1.out.size; simp; omega
  intro w2 ho2 hg2
  obtain ⟨p, hp⟩ : ∃ p, p = w1.heap.size := ⟨_, rfl⟩
  have k1 : Keeps (fun _ => False) w w1 := Keeps.of_below H1.out
  have k2 : Keeps (fun _ => False) w w2 := (k1.alloc _).grown hg2 (fun k hk => by cases hk)
  have bp2 : Blk w2 p 95 #[.int .u8 ((len : Int) % 256), .int .u8 ((len : Int) / 256 % 256), .int .u8 ((len : Int) / 65536 % 256), .int .u8 ((len : Int) / 16777216 % 256)] := by
    rw [hp]
    exact (hg2.block w1.heap.size (Blk.fresh w1 _ _).lt (by simp)).trans (Blk.fresh w1 _ _)
  have H2 := Lib.hid (And.intro ho2 (And.intro k2 bp2))
  clear ho2 hg2 k1 k2 bp2
  go_wp2_with (at_builtin; refine wpList_append_sl (f := fun _ => .int .u8 (kind : Nat)) (D := fun k => k = w2.heap.size) (base := w.heap.size) (n := 0) (xs := []) byteElem rfl (.tmp 19) (.tmp 21) rfl rfl rfl ?hown ?hsl ?h1 ?h63 ?hby ?hbase ?_)
  case hown => exact H2.out.1.alloc _
  case hsl => exact sl_one _ _ _
  case h1 => intro j _; rfl
  case h63 => unfold maxLen; omega
  case hby => omega
  case hbase => have := H2.out.2.1.size; simp; omega
  intro v3 w3 ho3 hg3 hx
  clear hx
  have k3 := keeps_grown (H2.out.2.1.alloc _) (H2.out.1.alloc _) hg3
  have bp3 := blk_grown (H2.out.2.2.alloc _) (H2.out.1.alloc _) (by decide) hg3
  rw [← hp]
  have H3 := Lib.hid (And.intro ho3 (And.intro k3 bp3))
  clear ho3 hg3 k3 bp3 hp
  go_wp2_with (at_builtin; refine wpList_append_sl (f := byteC (fourL len)) (D := fun k => k = p) (base := w.heap.size) (n := 1) (xs := [byteV kind]) byteElem rfl (.tmp 23) (.tmp 24) rfl rfl rfl ?hown ?hsl ?h1 ?h63 ?hby ?hbase ?_)
  case hown => exact H3.out.1
  case hsl => exact sl_four _ _ _ H3.out.2.2
  case h1 => intro j _; rfl
  case h63 => unfold maxLen; omega
  case hby => omega
  case hbase => exact H3.out.2.1.size
  intro v4 w4 ho4 hg4 hx
  clear hx
  have k4 := keeps_grown H3.out.2.1 H3.out.1 hg4
  have H4 := Lib.hid (And.intro ho4 k4)
  clear ho4 hg4 k4
  go_wp2_with (at_builtin; refine wpList_append_sl (f := byteC bs) (D := D) (base := w.heap.size) (n := 5) (xs := [byteV kind] ++ (List.range 4).map (byteC (fourL len))) byteElem rfl (.tmp 25) (.tmp 26) rfl rfl rfl ?hown ?hsl ?h1 ?h63 ?hby ?hbase ?_)
  case hown => exact H4.out.1
  case hsl => exact HS.out.2.1.keep (w' := w4) (fun q _ hq => H4.out.2.block q hq (fun h => h))
  case h1 => intro j _; rfl
  case h63 => unfold maxLen; omega
  case hby => omega
  case hbase => exact H4.out.2.size
  intro v5 w5 ho5 hg5 hx
  clear hx
  have k5 := keeps_grown H4.out.2 H4.out.1 hg5
  have e5 : byteV kind :: byteC (fourL len) 0 :: byteC (fourL len) 1 :: byteC (fourL len) 2 :: byteC (fourL len) 3 :: (List.range len).map (byteC bs) = (bodyL kind bs).map byteV := by
    rw [range_bytes HS.out.1, ← HS.out.1]
    rfl
  rw [e5] at ho5
  obtain ⟨A5, c5, hv5, -, -⟩ := own_form ho5
  subst hv5
  have hbl : (bodyL kind bs).length = 5 + len := by rw [bodyL_length, HS.out.1]; omega
  have H5 := Lib.hid (And.intro ho5 (And.intro k5 hbl))
  clear ho5 hg5 k5 e5 hbl
  go_wp2_with fail
  refine (sum_any _ _ _ _ _ (bodyL kind bs) H5.out.2.2 (own_sl H5.out.2.2 H5.out.1) (getD_of_mem (bodyL_byte HS.out.2.2.2 HS.out.2.2.1)) (by omega)).mono ?_
  rintro e w6 ⟨rfl, rfl⟩
  have hcl := crcS_lt (bodyL_byte HS.out.2.2.2 HS.out.2.2.1)
  obtain ⟨u, hu⟩ : ∃ u, u = crcS (bodyL kind bs) := ⟨_, rfl⟩
  rw [← hu] at hcl
  rw [← hu]
  have HU := Lib.hid (And.intro hu hcl)
  clear hu hcl
  go_wp2_with fail
  refine (four_any u _ HU.out.2).mono ?_
  rintro e w7 ⟨rfl, hb7⟩
  have k7' : Keeps (fun _ => False) w5 w7 := Keeps.of_below hb7
  have o7 := own_keeps H5.out.1 k7' (fun _ _ h => h)
  have k7 := H5.out.2.1.trans' k7'
  have H7 := Lib.hid (And.intro o7 k7)
  clear hb7 k7' o7 k7
  go_wp2_with (at_builtin; refine wpList_append_sl (f := byteC (fourL u)) (D := fun k => k = w7.heap.size) (base := w.heap.size) (n := 5 + len) (xs := (bodyL kind bs).map byteV) byteElem rfl (.tmp 31) (.tmp 32) rfl rfl rfl ?hown ?hsl ?h1 ?h63 ?hby ?hbase ?_)
  case hown => exact H7.out.1.alloc _
  case hsl => exact sl_four _ _ _ (Blk.fresh w7 _ _)
  case h1 => intro j _; rfl
  case h63 => unfold maxLen; omega
  case hby => omega
  case hbase => have := H7.out.2.size; simp; omega
  intro v8 w8 ho8 hg8 hx
  clear hx
  have k8 := keeps_grown (H7.out.2.alloc _) (H7.out.1.alloc _) hg8
  have e8 : (bodyL kind bs).map byteV ++ [byteC (fourL u) 0, byteC (fourL u) 1, byteC (fourL u) 2, byteC (fourL u) 3] = (sealL kind bs).map byteV := by
    unfold sealL
    rw [HU.out.1, List.map_append]
    rfl
  rw [e8] at ho8
  have hsl : 5 + len + 4 = (sealL kind bs).length := by rw [sealL_length, HS.out.1]; omega
  rw [hsl] at ho8
  obtain ⟨A8, c8, hv8, -, -⟩ := own_form ho8
  subst hv8
  have H8 := Lib.hid (And.intro ho8 k8)
  clear ho8 hg8 k8 e8 hsl
  go_wp2_with fail
  go_ret2
  exact ⟨A8, c8, rfl, H8.out.1, H8.out.2⟩
end Go.Proofs.YtopbbicjbjmdnaaGreatDoor.F
namespace Go.Proofs.YtopbbicjbjmdnaaGreatDoor
/-- Bit i of bytes, of each the highest first. -/
def bitOf (bs : List Nat) (i : Nat) : Nat := bs.getD (i / 8) 0 / 2 ^ (7 - i % 8) % 2
/-- n bits from the bit a on, as a number. -/
def gets (bs : List Nat) (a : Nat) : Nat → Nat
  | 0 => 0
  | n + 1 => 2 * gets bs a n + bitOf bs (a + n)
theorem bitOf_lt (bs : List Nat) (i : Nat) : bitOf bs i < 2 := Nat.mod_lt _ (by omega)
theorem gets_lt (bs : List Nat) (a n : Nat) : gets bs a n < 2 ^ n := by
  induction n with
  | zero => simp [gets]
  | succ n ih => have := bitOf_lt bs (a + n); rw [gets, Nat.pow_succ]; omega
/-- What Get answers: the number, its error, how many bits are taken. -/
def getV (bs : List Nat) (a en : Nat) (n : Int) : Nat := if 0 ≤ n ∧ n ≤ 64 ∧ n ≤ (en : Int) - a then gets bs a n.toNat else 0
def getE (a en : Nat) (n : Int) : Int := if 0 ≤ n ∧ n ≤ 64 then (if n ≤ (en : Int) - a then 0 else 10) else 2
def getN (a en : Nat) (n : Int) : Nat := if 0 ≤ n ∧ n ≤ 64 ∧ n ≤ (en : Int) - a then n.toNat else 0
theorem getN_le (a en : Nat) (n : Int) (h : a ≤ en) : a + getN a en n ≤ en := by unfold getN; split <;> omega
theorem two_or (g b : Nat) (hb : b < 2) : g * 2 ||| b = 2 * g + b := by
  have h := Nat.shiftLeft_add_eq_or_of_lt (i := 1) (b := b) (by omega) g
  rw [Nat.shiftLeft_eq] at h
  rw [show g * 2 = g * 2 ^ 1 from by omega, ← h]
  omega
theorem pow_cast (s : Nat) : ((2 : Int) ^ s) = ((2 ^ s : Nat) : Int) := by simp
theorem div_cast (x s : Nat) : (x : Int) / 2 ^ s = ((x / 2 ^ s : Nat) : Int) := by rw [pow_cast]; rfl
theorem and_one_u8 (x s : Nat) (hx : x < 256) : bits .and .u8 ((x : Int) / 2 ^ s) 1 = ((x / 2 ^ s % 2 : Nat) : Int) := by
  have h1 : x / 2 ^ s < 256 := Nat.lt_of_le_of_lt (Nat.div_le_self _ _) hx
  rw [div_cast, show (1 : Int) = ((1 : Nat) : Int) from rfl, u8_and_nat _ _ h1 (by omega), Nat.and_one_is_mod]
theorem get_step (g x s : Nat) (hg : g < 9223372036854775808) (hx : x < 256) :
    bits .or .u64 (IntKind.u64.wrap ((g : Int) * 2)) (IntKind.u64.wrap (bits .and .u8 ((x : Int) / 2 ^ s) 1)) = ((2 * g + x / 2 ^ s % 2 : Nat) : Int) := by
  rw [and_one_u8 x s hx, IntKind.wrap_u64, IntKind.wrap_u64]
  have h2 : x / 2 ^ s % 2 < 2 := Nat.mod_lt _ (by omega)
  generalize x / 2 ^ s % 2 = b at h2 ⊢
  rw [show (g : Int) * 2 % 18446744073709551616 = ((g * 2 : Nat) : Int) from by omega, show (b : Int) % 18446744073709551616 = (b : Int) from by omega,
    u64_or_nat _ _ (by omega) (by omega), two_or g b h2]
theorem rget_step (g x s : Nat) (hg : g < 9223372036854775808) (hx : x < 256) :
    IntKind.u64.wrap (IntKind.u64.wrap ((g : Int) * 2) + IntKind.u64.wrap (bits .and .u8 ((x : Int) / 2 ^ s) 1)) = ((2 * g + x / 2 ^ s % 2 : Nat) : Int) := by
  rw [and_one_u8 x s hx, IntKind.wrap_u64, IntKind.wrap_u64, IntKind.wrap_u64]
  have h2 : x / 2 ^ s % 2 < 2 := Nat.mod_lt _ (by omega)
  generalize x / 2 ^ s % 2 = b at h2 ⊢
  omega
end Go.Proofs.YtopbbicjbjmdnaaGreatDoor
namespace Go.Proofs.YtopbbicjbjmdnaaGreatDoor
open Go.RowKit
/-- A bits.Reader at block r: its bytes lie in a block of D. -/
structure Rd (w : World) (r : Nat) (D : Nat → Prop) (bs : List Nat) (a en : Nat) : Prop where
  small : bs.length ≤ 1099511627776
  le : a ≤ en
  en_le : en ≤ 8 * bs.length
  notIn : ¬ D r
  byte : ∀ j, bs.getD j 0 < 256
  blk : ∃ A c, Blk w r 188 #[.bool true, .slice A bs.length c, .int .i64 a, .int .i64 en] ∧ Sl w D A bs.length (byteC bs)

set_option maxHeartbeats 400000 in
theorem get_arg (w : World) (r : Nat) (D : Nat → Prop) (bs : List Nat) (a en : Nat) (n : Int) (h : Rd w r D bs a en) (hn : n < 0 ∨ 64 < n) :
    Calls Tryz.prog 85 #[.pointer (some ⟨r, 0, none⟩), .int .i64 n] w fun e w' => e = .returned (.tuple #[.int .u64 0, .int .i64 2]) ∧ w = w' := by
  obtain ⟨A, c, hb, -⟩ := h.blk
  have c0 := hb.cell 0
  simp at c0
  clear hb h
  rcases hn with hn | hn
  · go_enter Tryz.func85, Tryz.ntmps85
    go_wp2
    go_ret2
    exact ⟨rfl, rfl⟩
  · have hn' : ¬ n < 0 := by omega
    go_enter Tryz.func85, Tryz.ntmps85
    go_wp2
    go_ret2
    exact ⟨rfl, rfl⟩

set_option maxHeartbeats 400000 in
theorem get_end (w : World) (r : Nat) (D : Nat → Prop) (bs : List Nat) (a en : Nat) (n : Int) (h : Rd w r D bs a en) (h0 : 0 ≤ n) (h64 : n ≤ 64) (hn : (en : Int) - a < n) :
    Calls Tryz.prog 85 #[.pointer (some ⟨r, 0, none⟩), .int .i64 n] w fun e w' => e = .returned (.tuple #[.int .u64 0, .int .i64 10]) ∧ ∃ k, w' = w.drewN k := by
  obtain ⟨A, c, hb, -⟩ := h.blk
  have c0 := hb.cell 0
  have c2 := hb.cell 2
  have c3 := hb.cell 3
  simp at c0 c2 c3
  have := h.le
  have := h.en_le
  have := h.small
  clear hb h
  go_enter Tryz.func85, Tryz.ntmps85
  go_wp2
  go_quiet (fail)
  go_wp2
  go_ret2
  exact ⟨rfl, _, rfl⟩

set_option maxHeartbeats 400000 in
theorem get_ok (w : World) (r : Nat) (D : Nat → Prop) (bs : List Nat) (a en : Nat) (n : Nat) (h : Rd w r D bs a en) (h64 : n ≤ 64) (hn : n ≤ en - a) :
    Calls Tryz.prog 85 #[.pointer (some ⟨r, 0, none⟩), .int .i64 n] w fun e w' => e = .returned (.tuple #[.int .u64 (gets bs a n : Nat), .int .i64 0]) ∧ Rd w' r D bs (a + n) en ∧ Keeps (fun k => k = r) w w' := by
  obtain ⟨A, c, hb, hsl⟩ := h.blk
  have c0 := hb.cell 0
  have c2 := hb.cell 2
  have c3 := hb.cell 3
  simp at c0 c2 c3
  have hle := h.le
  have hen := h.en_le
  have hsm := h.small
  have HH := Lib.hid h
  clear h
  have d1 : decide ((n : Int) < 0) = false := by simp
  have d2 : decide ((64 : Int) < n) = false := by simp; omega
  have d3 : decide ((en : Int) - a < n) = false := by simp; omega
  go_enter Tryz.func85, Tryz.ntmps85
  go_wp2
  go_quiet (fail)
  go_wp2
  go_loopw [6, 37] (fun v i wr => ∃ k : Nat, k ≤ n ∧ i = .int .i64 k ∧ v = .int .u64 (gets bs a k : Nat) ∧ Blk wr r 188 #[.bool true, .slice A bs.length c, .int .i64 (a + k : Nat), .int .i64 en] ∧ Keeps (fun k => k = r) w wr)
    (fun _ i _ => n - (intOf i).toNat)
  case atStart => exact ⟨0, Nat.zero_le _, rfl, rfl, hb, (Keeps.refl _ _).drewN _⟩
  case round =>
    obtain ⟨k, hk, rfl, rfl, hbr, hkp⟩ := hrel
    clear c0 c2 c3 d1 d2 d3
    by_cases hlt : k < n
    · have hslr := hsl.keeps hkp (fun k hk e => HH.out.notIn (e ▸ hk))
      obtain ⟨b, off, rfl, hDb, hcell⟩ := hslr (by omega)
      have c1 := hbr.cell 1
      obtain ⟨p, hp⟩ : ∃ p, p = a + k := ⟨_, rfl⟩
      rw [← hp] at hbr
      have hpl : p < en := by omega
      obtain ⟨q, hq⟩ : ∃ q, q = p / 8 := ⟨_, rfl⟩
      obtain ⟨t, ht⟩ : ∃ t, t = p % 8 := ⟨_, rfl⟩
      obtain ⟨s, hs⟩ : ∃ s, s = 7 - t := ⟨_, rfl⟩
      obtain ⟨x, hx⟩ : ∃ x, x = bs.getD q 0 := ⟨_, rfl⟩
      obtain ⟨g, hg⟩ : ∃ g, g = gets bs a k := ⟨_, rfl⟩
      have hxb : x < 256 := hx ▸ HH.out.byte q
      have hcb := hcell q (by omega)
      unfold byteC at hcb
      rw [← hx] at hcb
      have hgb := gets_lt bs a k
      rw [← hg] at hgb ⊢
      have hgb2 : (2 : Nat) ^ k ≤ 2 ^ 63 := Nat.pow_le_pow_right (by omega) (by omega)
      have e1 : IntKind.i64.wrap ((p : Int) / 8) = (q : Int) := by rw [IntWalk.i64_in _ (by omega)]; omega
      have e2 : IntKind.i64.wrap ((p : Int) % 8) = (t : Int) := by rw [IntWalk.i64_in _ (by omega)]; omega
      have e3 : (p : Int) % 8 = (t : Int) := by omega
      have e4 : IntKind.i64.wrap (7 - (t : Int)) = (s : Int) := by rw [IntWalk.i64_in _ (by omega)]; omega
      have hqi : (q : Int) < (bs.length : Int) := by omega
      have hs7 : s ≤ 7 := by omega
      have HP := Lib.hid (And.intro hp (And.intro hq (And.intro ht (And.intro hs (And.intro hx hg)))))
      clear hp hq ht hs hx hg hgb hgb2
      have c2 := hbr.cell 2
      have f2 := hbr.frozen 2
      simp at c1 c2 f2
      clear hcell hslr
      go_wp2
      go_quiet (fail)
      clear e1 e2 e3 e4
      go_wp2
      go_roundw
      case rel =>
        obtain ⟨hp, hq, ht, hs, hx, hg⟩ := HP.out
        have hgb : g < 9223372036854775808 := by
          have h1 := gets_lt bs a k
          have h2 : (2 : Nat) ^ k ≤ 2 ^ 63 := Nat.pow_le_pow_right (by omega) (by omega)
          omega
        refine ⟨k + 1, by omega, by go_num, ?_, ?_, (hkp.drewN _).setCell (fun _ => rfl) _⟩
        · rw [get_step g x s hgb hxb, gets, ← hg, bitOf, ← hp, ← hq, ← ht, ← hs, ← hx]
        · have := (hbr.drewN nq).set 2 (.int .i64 ((p : Int) + 1))
          rw [show ((a + (k + 1) : Nat) : Int) = (p : Int) + 1 from by omega]
          simpa using this
      case measure => simp [intOf]; omega
    · go_wp2
      go_ret2
      obtain rfl : k = n := by omega
      exact ⟨rfl, ⟨hsm, by omega, hen, HH.out.notIn, HH.out.byte, A, c, hbr, hsl.keeps hkp (fun k hk e => HH.out.notIn (e ▸ hk))⟩, hkp⟩

theorem get_any (w : World) (r : Nat) (D : Nat → Prop) (bs : List Nat) (a en : Nat) (n : Int) (h : Rd w r D bs a en) :
    Calls Tryz.prog 85 #[.pointer (some ⟨r, 0, none⟩), .int .i64 n] w fun e w' => e = .returned (.tuple #[.int .u64 (getV bs a en n : Nat), .int .i64 (getE a en n)]) ∧ Rd w' r D bs (a + getN a en n) en ∧ Keeps (fun k => k = r) w w' := by
  by_cases h1 : 0 ≤ n ∧ n ≤ 64
  · by_cases h2 : n ≤ (en : Int) - a
    · obtain ⟨m, rfl⟩ := Int.eq_ofNat_of_zero_le h1.1
      have hv : getV bs a en m = gets bs a m := by unfold getV; rw [if_pos ⟨h1.1, h1.2, h2⟩]; rfl
      have he : getE a en m = 0 := by unfold getE; rw [if_pos h1, if_pos h2]
      have hn : getN a en m = m := by unfold getN; rw [if_pos ⟨h1.1, h1.2, h2⟩]; rfl
      rw [hv, he, hn]
      exact get_ok w r D bs a en m h (by omega) (by omega)
    · have hv : getV bs a en n = 0 := by unfold getV; rw [if_neg (by omega)]
      have he : getE a en n = 10 := by unfold getE; rw [if_pos h1, if_neg h2]
      have hn : getN a en n = 0 := by unfold getN; rw [if_neg (by omega)]
      rw [hv, he, hn]
      refine (get_end w r D bs a en n h h1.1 h1.2 (by omega)).mono ?_
      rintro e w' ⟨rfl, k, rfl⟩
      obtain ⟨s1, s2, s3, s4, s5, A, c, s6, s7⟩ := h
      exact ⟨rfl, ⟨s1, s2, s3, s4, s5, A, c, s6, s7⟩, (Keeps.refl _ _).drewN _⟩
  · have hv : getV bs a en n = 0 := by unfold getV; rw [if_neg (by omega)]
    have he : getE a en n = 2 := by unfold getE; rw [if_neg h1]
    have hn : getN a en n = 0 := by unfold getN; rw [if_neg (by omega)]
    rw [hv, he, hn]
    refine (get_arg w r D bs a en n h (by omega)).mono ?_
    rintro e w' ⟨rfl, rfl⟩
    exact ⟨rfl, h, Keeps.refl _ _⟩

set_option maxHeartbeats 400000 in
theorem left_any (w : World) (r : Nat) (D : Nat → Prop) (bs : List Nat) (a en : Nat) (h : Rd w r D bs a en) :
    Calls Tryz.prog 91 #[.pointer (some ⟨r, 0, none⟩)] w fun e w' => e = .returned (.int .i64 ((en : Int) - a)) ∧ ∃ k, w' = w.drewN k := by
  obtain ⟨A, c, hb, -⟩ := h.blk
  have c0 := hb.cell 0
  have c2 := hb.cell 2
  have c3 := hb.cell 3
  simp at c0 c2 c3
  have := h.le
  have := h.en_le
  have := h.small
  clear hb h
  have e1 : IntKind.i64.wrap ((en : Int) - a) = (en : Int) - a := IntWalk.i64_in _ (by omega)
  go_enter Tryz.func91, Tryz.ntmps91
  go_wp2
  go_quiet (fail)
  go_wp2
  go_ret
  exact ⟨rfl, _, rfl⟩

theorem byteElem : Elem1 Tryz.prog 25 5 (.int .u8 0) 1 := Elem1.mk' Tryz.underlying25 rfl (by kernel_rfl)

def NewRdPost (w : World) (bs : List Nat) (n : Nat) (e : Ending) (w' : World) : Prop :=
  ∃ r, e = .returned (.tuple #[.pointer (some ⟨r, 0, none⟩), .int .i64 0]) ∧ w.heap.size ≤ r ∧ Rd w' r (fun k => w.heap.size ≤ k ∧ k < r) bs 0 n ∧ Keeps (fun _ => False) w w'

set_option maxHeartbeats 400000 in
theorem newReader_ok (w : World) (A : Option Addr) (c : Nat) (D : Nat → Prop) (bs : List Nat) (n : Nat) (hsl : Sl w D A bs.length (byteC bs)) (hbyte : ∀ j, bs.getD j 0 < 256) (hsm : bs.length ≤ 1099511627776) (hn : n ≤ 8 * bs.length) :
    Calls Tryz.prog 83 #[.slice A bs.length c, .int .i64 n] w (NewRdPost w bs n) := by
  go_enter Tryz.func83, Tryz.ntmps83
  go_wp2_with (at_builtin; refine wpList_append_sl (D := D) (f := byteC bs) (base := w.heap.size) (n := 0) (xs := []) byteElem rfl (.tmp 15) (.tmp 16) rfl rfl rfl ?hown ?hsl ?h1 ?h63 ?hby ?hbase ?_)
  case hown => exact World.ownsRow_made w _ 0 (Nat.le_refl _) (by decide) (by simp)
  case hsl => exact hsl.keep fun k _ hlt => Below.heap_alloc w _ k hlt
  case h1 => intro j _; rfl
  case h63 => simp only [maxLen]; omega
  case hby => omega
  case hbase => simp
  intro v1 w1 hown1 hg1 hat1
  obtain ⟨A1, c1, hv1, -, hA1⟩ := own_form hown1
  rw [hv1]
  rw [hv1] at hown1
  have H1 := Lib.hid hown1
  have H2 := Lib.hid hA1
  have H3 := Lib.hid hg1
  clear hown1 hA1 hg1 hat1 hv1
  go_wp2
  go_ret2
  have hk1 : Keeps (fun _ => False) w w1 := ((Keeps.refl _ w).alloc _).grown H3.out (fun k hk hlt => by simp [Value.ownBlock] at hk; omega)
  refine ⟨w1.heap.size, rfl, hk1.size, ⟨hsm, Nat.zero_le _, hn, fun hx => by omega, hbyte, A1, c1, Blk.fresh _ _ _, ?_⟩, hk1.alloc _⟩
  refine ((Sl.of_own (f := byteC bs) H1.out ?_).mono ?_).keep fun k _ hlt => Below.heap_alloc w1 _ k hlt
  · intro j u hu
    rw [List.getElem?_map] at hu
    rcases Nat.lt_or_ge j bs.length with hj | hj
    · rw [List.getElem?_range hj] at hu
      simpa using hu.symm
    · rw [List.getElem?_eq_none (by simpa using hj)] at hu
      cases hu
  · intro k hk
    have := H1.out.lt k hk
    exact this

set_option maxHeartbeats 400000 in
theorem newReader_arg (w : World) (A : Option Addr) (len c : Nat) (n : Int) (hsm : len ≤ 1099511627776) (hn : n < 0 ∨ 8 * (len : Int) < n) :
    Calls Tryz.prog 83 #[.slice A len c, .int .i64 n] w fun e w' => e = .returned (.tuple #[.pointer none, .int .i64 2]) ∧ w = w' := by
  rcases hn with hn | hn
  · go_enter Tryz.func83, Tryz.ntmps83
    go_wp2
    go_ret2
    exact ⟨rfl, rfl⟩
  · have hn' : ¬ n < 0 := by omega
    go_enter Tryz.func83, Tryz.ntmps83
    go_wp2
    go_ret2
    exact ⟨rfl, rfl⟩
end Go.Proofs.YtopbbicjbjmdnaaGreatDoor
namespace Go.Proofs.YtopbbicjbjmdnaaGreatDoor
/-- Byte j of bits. -/
def byteAt (L : List Nat) (j : Nat) : Nat :=
  128 * L.getD (8 * j) 0 + 64 * L.getD (8 * j + 1) 0 + 32 * L.getD (8 * j + 2) 0 + 16 * L.getD (8 * j + 3) 0 + 8 * L.getD (8 * j + 4) 0 + 4 * L.getD (8 * j + 5) 0 + 2 * L.getD (8 * j + 6) 0 + L.getD (8 * j + 7) 0
/-- Bits as bytes, with bits 0 up to a whole byte. -/
def pack (L : List Nat) : List Nat := (List.range ((L.length + 7) / 8)).map (byteAt L)
/-- The bits of a number: the first k of the lowest n ones, the highest of them first. -/
def bitsTo (v n k : Nat) : List Nat := (List.range k).map fun j => v / 2 ^ (n - 1 - j) % 2
theorem bitsTo_zero (v n : Nat) : bitsTo v n 0 = [] := rfl
theorem bitsTo_succ (v n k : Nat) : bitsTo v n (k + 1) = bitsTo v n k ++ [v / 2 ^ (n - 1 - k) % 2] := by
  unfold bitsTo; rw [List.range_succ, List.map_append]; rfl
theorem bitsTo_length (v n k : Nat) : (bitsTo v n k).length = k := by simp [bitsTo]
theorem bits_snoc {L : List Nat} (h : ∀ j, L.getD j 0 < 2) {b : Nat} (hb : b < 2) : ∀ j, (L ++ [b]).getD j 0 < 2 := by
  intro j
  rw [List.getD_eq_getElem?_getD]
  rcases Nat.lt_trichotomy j L.length with h1 | h1 | h1
  · rw [List.getElem?_append_left h1, ← List.getD_eq_getElem?_getD]; exact h j
  · subst h1; simpa using hb
  · rw [List.getElem?_eq_none (by simp; omega)]; simp
theorem getD_snoc_lt (L : List Nat) (b j : Nat) (h : j < L.length) : (L ++ [b]).getD j 0 = L.getD j 0 := by
  rw [List.getD_eq_getElem?_getD, List.getD_eq_getElem?_getD, List.getElem?_append_left h]
theorem getD_snoc_eq (L : List Nat) (b : Nat) : (L ++ [b]).getD L.length 0 = b := by
  rw [List.getD_eq_getElem?_getD]; simp
theorem getD_ge (L : List Nat) (j : Nat) (h : L.length ≤ j) : L.getD j 0 = 0 := by
  rw [List.getD_eq_getElem?_getD, List.getElem?_eq_none h]; rfl
theorem getD_snoc (L : List Nat) (b j : Nat) : (L ++ [b]).getD j 0 = L.getD j 0 + if j = L.length then b else 0 := by
  rcases Nat.lt_trichotomy j L.length with h1 | h1 | h1
  · rw [getD_snoc_lt L b j h1, if_neg (by omega)]; omega
  · subst h1; rw [getD_snoc_eq, getD_ge L _ (Nat.le_refl _)]; simp
  · rw [getD_ge L j (by omega), getD_ge (L ++ [b]) j (by simp; omega), if_neg (by omega)]
theorem pack_length (L : List Nat) : (pack L).length = (L.length + 7) / 8 := by simp [pack]
theorem byteAt_ge (L : List Nat) (j : Nat) (h : L.length ≤ 8 * j) : byteAt L j = 0 := by
  unfold byteAt
  rw [getD_ge L _ h, getD_ge L (8 * j + 1) (by omega), getD_ge L (8 * j + 2) (by omega), getD_ge L (8 * j + 3) (by omega), getD_ge L (8 * j + 4) (by omega), getD_ge L (8 * j + 5) (by omega), getD_ge L (8 * j + 6) (by omega), getD_ge L (8 * j + 7) (by omega)]
theorem pack_getD (L : List Nat) (j : Nat) : (pack L).getD j 0 = byteAt L j := by
  rw [List.getD_eq_getElem?_getD, pack, List.getElem?_map]
  rcases Nat.lt_or_ge j ((L.length + 7) / 8) with h | h
  · rw [List.getElem?_range h]; rfl
  · rw [List.getElem?_eq_none (by simpa using h), byteAt_ge L j (by omega)]; rfl
theorem byteAt_lt {L : List Nat} (h : ∀ j, L.getD j 0 < 2) (j : Nat) : byteAt L j < 256 := by
  unfold byteAt
  have := h (8 * j); have := h (8 * j + 1); have := h (8 * j + 2); have := h (8 * j + 3); have := h (8 * j + 4); have := h (8 * j + 5); have := h (8 * j + 6); have := h (8 * j + 7)
  omega
/-- A bit more: its byte is more by it. -/
theorem byteAt_snoc (L : List Nat) (b j : Nat) : byteAt (L ++ [b]) j = byteAt L j + if j = L.length / 8 then b * 2 ^ (7 - L.length % 8) else 0 := by
  unfold byteAt
  simp only [getD_snoc]
  rcases Nat.lt_or_ge (L.length / 8) j with h1 | h1
  · rw [if_neg (show ¬ 8 * j = L.length by omega), if_neg (show ¬ 8 * j + 1 = L.length by omega), if_neg (show ¬ 8 * j + 2 = L.length by omega), if_neg (show ¬ 8 * j + 3 = L.length by omega), if_neg (show ¬ 8 * j + 4 = L.length by omega), if_neg (show ¬ 8 * j + 5 = L.length by omega), if_neg (show ¬ 8 * j + 6 = L.length by omega), if_neg (show ¬ 8 * j + 7 = L.length by omega), if_neg (show ¬ j = L.length / 8 by omega)]
    omega
  · rcases Nat.lt_or_ge j (L.length / 8) with h2 | h2
    · rw [if_neg (show ¬ 8 * j = L.length by omega), if_neg (show ¬ 8 * j + 1 = L.length by omega), if_neg (show ¬ 8 * j + 2 = L.length by omega), if_neg (show ¬ 8 * j + 3 = L.length by omega), if_neg (show ¬ 8 * j + 4 = L.length by omega), if_neg (show ¬ 8 * j + 5 = L.length by omega), if_neg (show ¬ 8 * j + 6 = L.length by omega), if_neg (show ¬ 8 * j + 7 = L.length by omega), if_neg (show ¬ j = L.length / 8 by omega)]
      omega
    · obtain rfl : j = L.length / 8 := by omega
      rw [if_pos (show L.length / 8 = L.length / 8 from rfl)]
      have hr : L.length % 8 < 8 := Nat.mod_lt _ (by omega)
      have hd := Nat.div_add_mod L.length 8
      obtain ⟨q, hq⟩ : ∃ q, q = L.length / 8 := ⟨_, rfl⟩
      obtain ⟨r, hrr⟩ : ∃ r, r = L.length % 8 := ⟨_, rfl⟩
      rw [← hrr] at hr hd ⊢
      rw [← hq] at hd ⊢
      generalize L.length = n at *
      rcases (show r = 0 ∨ r = 1 ∨ r = 2 ∨ r = 3 ∨ r = 4 ∨ r = 5 ∨ r = 6 ∨ r = 7 by omega) with h | h | h | h | h | h | h | h
      all_goals
        subst h
        subst hd
        simp
        omega
/-- Its byte has bits 0 from there on. -/
theorem byteAt_mul (L : List Nat) : ∃ x, byteAt L (L.length / 8) = x * 2 ^ (8 - L.length % 8) := by
  have hr : L.length % 8 < 8 := Nat.mod_lt _ (by omega)
  have hd := Nat.div_add_mod L.length 8
  have hg : ∀ j, L.length ≤ j → L.getD j 0 = 0 := fun j hj => getD_ge L j hj
  obtain ⟨q, hq⟩ : ∃ q, q = L.length / 8 := ⟨_, rfl⟩
  obtain ⟨r, hrr⟩ : ∃ r, r = L.length % 8 := ⟨_, rfl⟩
  rw [← hrr] at hr hd ⊢
  rw [← hq] at hd ⊢
  have z0 : r = 0 → L.getD (8 * q) 0 = 0 := fun _ => hg _ (by omega)
  have z1 : r ≤ 1 → L.getD (8 * q + 1) 0 = 0 := fun _ => hg _ (by omega)
  have z2 : r ≤ 2 → L.getD (8 * q + 2) 0 = 0 := fun _ => hg _ (by omega)
  have z3 : r ≤ 3 → L.getD (8 * q + 3) 0 = 0 := fun _ => hg _ (by omega)
  have z4 : r ≤ 4 → L.getD (8 * q + 4) 0 = 0 := fun _ => hg _ (by omega)
  have z5 : r ≤ 5 → L.getD (8 * q + 5) 0 = 0 := fun _ => hg _ (by omega)
  have z6 : r ≤ 6 → L.getD (8 * q + 6) 0 = 0 := fun _ => hg _ (by omega)
  have z7 : r ≤ 7 → L.getD (8 * q + 7) 0 = 0 := fun _ => hg _ (by omega)
  unfold byteAt
  clear hg
  generalize L.getD (8 * q) 0 = b0 at *
  generalize L.getD (8 * q + 1) 0 = b1 at *
  generalize L.getD (8 * q + 2) 0 = b2 at *
  generalize L.getD (8 * q + 3) 0 = b3 at *
  generalize L.getD (8 * q + 4) 0 = b4 at *
  generalize L.getD (8 * q + 5) 0 = b5 at *
  generalize L.getD (8 * q + 6) 0 = b6 at *
  generalize L.getD (8 * q + 7) 0 = b7 at *
  rcases (show r = 0 ∨ r = 1 ∨ r = 2 ∨ r = 3 ∨ r = 4 ∨ r = 5 ∨ r = 6 ∨ r = 7 by omega) with h | h | h | h | h | h | h | h
  · exact ⟨0, by omega⟩
  · exact ⟨b0, by rw [h]; omega⟩
  · exact ⟨2 * b0 + b1, by rw [h]; omega⟩
  · exact ⟨4 * b0 + 2 * b1 + b2, by rw [h]; omega⟩
  · exact ⟨8 * b0 + 4 * b1 + 2 * b2 + b3, by rw [h]; omega⟩
  · exact ⟨16 * b0 + 8 * b1 + 4 * b2 + 2 * b3 + b4, by rw [h]; omega⟩
  · exact ⟨32 * b0 + 16 * b1 + 8 * b2 + 4 * b3 + 2 * b4 + b5, by rw [h]; omega⟩
  · exact ⟨64 * b0 + 32 * b1 + 16 * b2 + 8 * b3 + 4 * b4 + 2 * b5 + b6, by rw [h]; omega⟩
theorem byteAt_or (L : List Nat) (b : Nat) (hb : b < 2) : byteAt L (L.length / 8) ||| b * 2 ^ (7 - L.length % 8) = byteAt (L ++ [b]) (L.length / 8) := by
  rw [byteAt_snoc, if_pos rfl]
  obtain ⟨x, hx⟩ := byteAt_mul L
  rw [hx]
  have hr : L.length % 8 < 8 := Nat.mod_lt _ (by omega)
  generalize L.length % 8 = r at *
  have hlt : b * 2 ^ (7 - r) < 2 ^ (8 - r) := by
    rw [show 8 - r = (7 - r) + 1 by omega, Nat.pow_succ]
    have : 0 < 2 ^ (7 - r) := Nat.pow_pos (by omega)
    rcases (show b = 0 ∨ b = 1 by omega) with rfl | rfl <;> omega
  have h := Nat.shiftLeft_add_eq_or_of_lt hlt x
  rw [Nat.shiftLeft_eq] at h
  exact h.symm
/-- The bytes behind one bit more. -/
def oneMore (L : List Nat) : List Nat := if L.length % 8 = 0 then pack L ++ [0] else pack L
theorem oneMore_length (L : List Nat) : (oneMore L).length = L.length / 8 + 1 := by
  unfold oneMore; split
  · rw [List.length_append, pack_length]; simp; omega
  · rw [pack_length]; omega
theorem oneMore_getD (L : List Nat) : (oneMore L).getD (L.length / 8) 0 = byteAt L (L.length / 8) := by
  unfold oneMore; split
  · next h =>
    have hl : (pack L).length = L.length / 8 := by rw [pack_length]; omega
    rw [← hl, getD_snoc_eq, hl, byteAt_ge L _ (by omega)]
  · exact pack_getD L _
theorem pack_snoc (L : List Nat) (b : Nat) (hb : b < 2) : (oneMore L).set (L.length / 8) (byteAt L (L.length / 8) ||| b * 2 ^ (7 - L.length % 8)) = pack (L ++ [b]) := by
  rw [byteAt_or L b hb]
  have hlen : (pack (L ++ [b])).length = L.length / 8 + 1 := by rw [pack_length]; simp; omega
  apply List.ext_getElem?
  intro j
  rcases Nat.lt_or_ge j (L.length / 8 + 1) with hj | hj
  · have e : (pack (L ++ [b]))[j]? = some (byteAt (L ++ [b]) j) := by
      rw [List.getElem?_eq_getElem (by omega)]
      have := pack_getD (L ++ [b]) j
      rw [List.getD_eq_getElem?_getD, List.getElem?_eq_getElem (by omega)] at this
      simpa using this
    rw [e, List.getElem?_set]
    split
    · next h => subst h; rw [if_pos (by rw [oneMore_length]; omega)]
    · next h =>
      rw [byteAt_snoc, if_neg (by omega)]
      have hjl : j < (oneMore L).length := by rw [oneMore_length]; omega
      have : (oneMore L).getD j 0 = byteAt L j := by
        unfold oneMore; split
        · next h8 =>
          rw [getD_snoc_lt _ _ _ (by rw [pack_length]; omega)]; exact pack_getD L j
        · exact pack_getD L j
      rw [List.getD_eq_getElem?_getD, List.getElem?_eq_getElem hjl] at this
      rw [List.getElem?_eq_getElem hjl]
      simpa using this
  · rw [List.getElem?_eq_none (by rw [List.length_set, oneMore_length]; omega), List.getElem?_eq_none (by omega)]
theorem oneMore_lt {L : List Nat} (h : ∀ j, L.getD j 0 < 2) (j : Nat) : (oneMore L).getD j 0 < 256 := by
  unfold oneMore; split
  · rw [getD_snoc]; split
    · rw [pack_getD]; have := byteAt_lt h j; omega
    · rw [pack_getD]; have := byteAt_lt h j; omega
  · rw [pack_getD]; exact byteAt_lt h j
theorem one_or (x b s : Nat) (hx : x < 256) (hb : b < 2) (hs : s ≤ 7) : bits .or .u8 (x : Int) (IntKind.u64.wrap ((b : Int) * 2 ^ s) % 256) = ((x ||| b * 2 ^ s : Nat) : Int) := by
  have hp : 2 ^ s ≤ 2 ^ 7 := Nat.pow_le_pow_right (by omega) hs
  have hlt : b * 2 ^ s < 256 := by rcases (show b = 0 ∨ b = 1 by omega) with rfl | rfl <;> omega
  rw [show (b : Int) * 2 ^ s = ((b * 2 ^ s : Nat) : Int) from by rw [pow_cast, ← Int.natCast_mul]]
  generalize b * 2 ^ s = y at hlt ⊢
  rw [IntKind.wrap_u64, show (y : Int) % 18446744073709551616 % 256 = (y : Int) from by omega, u8_or_nat x y hx hlt]
theorem and_one_u64' (v i : Nat) (hv : v < 18446744073709551616) : bits .and .u64 ((v : Int) / 2 ^ i) 1 = ((v / 2 ^ i % 2 : Nat) : Int) := by
  have h1 : v / 2 ^ i < 18446744073709551616 := Nat.lt_of_le_of_lt (Nat.div_le_self _ _) hv
  rw [div_cast, show (1 : Int) = ((1 : Nat) : Int) from rfl, u64_and_nat _ _ h1 (by omega), Nat.and_one_is_mod]
theorem ret_int {k : IntKind} {a b : Int} (h : a = b) : Ending.returned (.int k a) = .returned (.int k b) := by rw [h]
/-- What Put answers, and the bits behind it. -/
def putE (len : Nat) (n : Int) : Int := if 0 ≤ n ∧ n ≤ 64 then (if n ≤ 8388608 - (len : Int) then 0 else 3) else 2
def putL (L : List Nat) (v : Nat) (n : Int) : List Nat := if 0 ≤ n ∧ n ≤ 64 ∧ n ≤ 8388608 - (L.length : Int) then L ++ bitsTo v n.toNat n.toNat else L
theorem bitsTo_bit (v n k : Nat) : ∀ j, (bitsTo v n k).getD j 0 < 2 := by
  intro j
  unfold bitsTo
  rw [List.getD_eq_getElem?_getD, List.getElem?_map]
  rcases Nat.lt_or_ge j k with h | h
  · rw [List.getElem?_range h]; exact Nat.mod_lt _ (by omega)
  · rw [List.getElem?_eq_none (by simpa using h)]; simp
theorem bits_append {L M : List Nat} (h : ∀ j, L.getD j 0 < 2) (k : ∀ j, M.getD j 0 < 2) : ∀ j, (L ++ M).getD j 0 < 2 := by
  intro j
  rw [List.getD_eq_getElem?_getD]
  rcases Nat.lt_or_ge j L.length with h1 | h1
  · rw [List.getElem?_append_left h1, ← List.getD_eq_getElem?_getD]; exact h j
  · rw [List.getElem?_append_right h1, ← List.getD_eq_getElem?_getD]; exact k _
/-- The bytes of the first k bits, in m bytes. -/
def packTo (L : List Nat) (m k : Nat) : List Nat := (List.range m).map (byteAt (L.take k))
theorem packTo_length (L : List Nat) (m k : Nat) : (packTo L m k).length = m := by simp [packTo]
theorem packTo_zero (L : List Nat) (m : Nat) : packTo L m 0 = List.replicate m 0 := by
  unfold packTo
  apply List.ext_getElem?
  intro j
  rw [List.getElem?_map, List.getElem?_replicate]
  rcases Nat.lt_or_ge j m with h | h
  · rw [List.getElem?_range h, if_pos h]
    show some (byteAt (L.take 0) j) = _
    rw [byteAt_ge _ _ (by simp)]
  · rw [List.getElem?_eq_none (by simpa using h), if_neg (by omega)]; rfl
theorem packTo_all (L : List Nat) : packTo L ((L.length + 7) / 8) L.length = pack L := by
  unfold packTo pack; rw [List.take_length]
theorem packTo_getD (L : List Nat) (m k j : Nat) (h : j < m) : (packTo L m k).getD j 0 = byteAt (L.take k) j := by
  rw [List.getD_eq_getElem?_getD, packTo, List.getElem?_map, List.getElem?_range h]; rfl
theorem take_snocD (L : List Nat) (k : Nat) (h : k < L.length) : L.take (k + 1) = L.take k ++ [L.getD k 0] := by
  rw [List.take_succ_eq_append_getElem h, List.getD_eq_getElem?_getD, List.getElem?_eq_getElem h]; rfl
theorem byteAt_take_succ (L : List Nat) (k j : Nat) (h : k < L.length) : byteAt (L.take (k + 1)) j = byteAt (L.take k) j + if j = k / 8 then L.getD k 0 * 2 ^ (7 - k % 8) else 0 := by
  rw [take_snocD L k h, byteAt_snoc, List.length_take, Nat.min_eq_left (by omega)]
theorem packTo_skip (L : List Nat) (m k : Nat) (h : k < L.length) (hb : L.getD k 0 = 0) : packTo L m (k + 1) = packTo L m k := by
  unfold packTo
  apply List.map_congr_left
  intro j _
  rw [byteAt_take_succ L k j h, hb]; simp
theorem packTo_set (L : List Nat) (m k : Nat) (h : k < L.length) (hb : L.getD k 0 = 1) : (packTo L m k).set (k / 8) (byteAt (L.take k) (k / 8) + 2 ^ (7 - k % 8)) = packTo L m (k + 1) := by
  apply List.ext_getElem?
  intro j
  rw [List.getElem?_set, packTo_length]
  unfold packTo
  rcases Nat.lt_or_ge j m with hj | hj
  · rw [List.getElem?_map, List.getElem?_map, List.getElem?_range hj]
    simp only [Option.map_some]
    rw [byteAt_take_succ L k j h, hb]
    split
    · next e => rw [if_pos (by omega)]; subst e; simp
    · next e => rw [if_neg (by omega)]; simp
  · rw [List.getElem?_eq_none (by simpa using hj), List.getElem?_eq_none (by simpa using hj)]
    split
    · next e => rw [if_neg (by omega)]
    · rfl
theorem take_bit {L : List Nat} (h : ∀ j, L.getD j 0 < 2) (k : Nat) : ∀ j, (L.take k).getD j 0 < 2 := by
  intro j
  rw [List.getD_eq_getElem?_getD, List.getElem?_take]
  split
  · rw [← List.getD_eq_getElem?_getD]; exact h j
  · simp
theorem rby_step (x s : Nat) (h : x + 2 ^ s < 256) : ((x : Int) + (2 : Int) ^ s) % 256 = ((x + 2 ^ s : Nat) : Int) := by
  rw [pow_cast]
  generalize 2 ^ s = y at h ⊢
  omega
end Go.Proofs.YtopbbicjbjmdnaaGreatDoor
namespace Go.Proofs.YtopbbicjbjmdnaaGreatDoor
open Go.RowKit
set_option maxRecDepth 100000
def byteV (b : Nat) : Value := .int .u8 (b : Int)
/-- The method value one of the writer at block a. -/
def oneOf (a : Nat) : Value := .func (.func 73) #[.pointer (some ⟨a, 0, none⟩)] #[]
/-- A bits.Writer at block a, its bytes in the block g: its bits. -/
structure Wr (w : World) (a : Nat) (g : Option Nat) (L : List Nat) : Prop where
  len : L.length ≤ 8388608
  bit : ∀ j, L.getD j 0 < 2
  blk : ∃ v, v.ownBlock = g ∧ Blk w a 154 #[oneOf a, v, .int .i64 L.length] ∧ w.ownsRow 0 5 1 v (pack L).length ((pack L).map byteV)
def NewWrPost (w : World) (e : Ending) (w' : World) : Prop :=
  e = .returned (.pointer (some ⟨w.heap.size, 0, none⟩)) ∧ Wr w' w.heap.size none [] ∧ Keeps (fun _ => False) w w'
set_option maxHeartbeats 400000 in
theorem newWriter_any (w : World) : Calls Tryz.prog 51 #[] w (NewWrPost w) := by
  go_enter Tryz.func51, Tryz.ntmps51
  go_wp2
  go_ret
  refine ⟨rfl, ⟨by simp, by simp, .slice none 0 0, rfl, ?_, ⟨by simp [pack], .inl ⟨rfl, by simp [pack]⟩⟩⟩, ((Keeps.refl _ _).alloc _)⟩
  exact Blk.fresh _ _ _

/-- Behind the first statement of one: there is room for the bit. -/
def Roomy (w : World) (a : Nat) (g : Option Nat) (L : List Nat) (wx : World) : Prop :=
  ∃ gb c, Blk wx a 154 #[oneOf a, .slice (some ⟨gb, 0, none⟩) (L.length / 8 + 1) c, .int .i64 L.length] ∧
    wx.ownsRow 0 5 1 (.slice (some ⟨gb, 0, none⟩) (L.length / 8 + 1) c) (L.length / 8 + 1) ((oneMore L).map byteV) ∧ Keeps (fun k => k = a ∨ some k = g) w wx ∧ (g = some gb ∨ w.heap.size ≤ gb)
theorem roomy_same {w : World} {a : Nat} {g : Option Nat} {L : List Nat} (h : Wr w a g L) (h8 : ¬ L.length % 8 = 0) : Roomy w a g L w := by
  obtain ⟨v, hv, hblk, hown⟩ := h.blk
  obtain ⟨A, c, rfl, hlec, hA⟩ := own_form hown
  have hl := pack_length L
  obtain ⟨gb, rfl, -, -⟩ := hA (by omega)
  have e : (pack L).length = L.length / 8 + 1 := by omega
  rw [e] at hblk hown hv
  refine ⟨gb, c, hblk, ?_, Keeps.refl _ _, .inl hv.symm⟩
  unfold oneMore
  rw [if_neg h8]
  exact hown
theorem own_setCell_other {w : World} {base : Nat} {e t : TypeId} {size n a i : Nat} {v u : Value} {xs : List Value} {cs : Array Value} (h : w.ownsRow base e size v n xs) (hg : Blk w a t cs) (hne : e ≠ t) : (w.setCell ⟨a, i, none⟩ u).ownsRow base e size v n xs := by
  refine own_keeps h (S := fun k => k = a) (Keeps.setCell (Keeps.refl (fun k => k = a) w) (p := ⟨a, i, none⟩) (fun _ => rfl) u) (fun g hgv e => own_ne h hg hne (by rw [hgv, e]))
theorem roomy_new {w w1 : World} {a : Nat} {g : Option Nat} {L : List Nat} {v v1 : Value} {o : Obj} (hv : v.ownBlock = g) (hblk : Blk w a 154 #[oneOf a, v, .int .i64 L.length]) (hown : w.ownsRow 0 5 1 v (pack L).length ((pack L).map byteV))
    (h8 : L.length % 8 = 0) (hg1 : (w.alloc o).grownBy w1 v.ownBlock) (hown1 : w1.ownsRow 0 5 1 v1 ((pack L).length + 1) ((pack L).map byteV ++ [.int .u8 0])) (hat1 : v1.ownBlock = v.ownBlock ∨ v1.ownBlock = some (w.heap.size + 1)) :
    Blk w1 a 154 #[oneOf a, v, .int .i64 L.length] ∧ Roomy w a g L (w1.setCell ⟨a, 1, none⟩ v1) := by
  have hk : Keeps (fun k => k = a ∨ some k = g) w w1 := ((Keeps.refl _ w).alloc o).grown hg1 (fun k hk _ => .inr (by rw [← hk, hv]))
  have hka : Keeps (fun k => some k = g) w w1 := ((Keeps.refl _ w).alloc o).grown hg1 (fun k hk _ => by rw [← hk, hv])
  have hb1 : Blk w1 a 154 #[oneOf a, v, .int .i64 L.length] := hblk.keeps hka (fun e => own_ne hown hblk (by decide) (by rw [hv, e]))
  refine ⟨hb1, ?_⟩
  have hl := pack_length L
  obtain ⟨A, c, rfl, hlec, hA⟩ := own_form hown1
  obtain ⟨gb, rfl, -, hgb⟩ := hA (by omega)
  have e : (pack L).length + 1 = L.length / 8 + 1 := by omega
  rw [e] at hown1 ⊢
  refine ⟨gb, c, ?_, ?_, hk.setCell (fun _ => .inl rfl) _, ?_⟩
  · have := hb1.set 1 (.slice (some ⟨gb, 0, none⟩) (L.length / 8 + 1) c)
    simpa using this
  · have : (oneMore L).map byteV = (pack L).map byteV ++ [.int .u8 0] := by
      unfold oneMore; rw [if_pos h8, List.map_append]; rfl
    rw [this]
    exact own_setCell_other hown1 hb1 (by decide)
  · rcases hat1 with h | h
    · left; rw [← hv, ← h]; rfl
    · right
      simp [Value.ownBlock] at h
      omega
def OnePost (w : World) (a : Nat) (g : Option Nat) (L : List Nat) (b : Nat) (e : Ending) (w' : World) : Prop :=
  e = .returned (.tuple #[]) ∧ ∃ g', Wr w' a g' (L ++ [b]) ∧ Keeps (fun k => k = a ∨ some k = g) w w' ∧ (g' = g ∨ ∃ k, g' = some k ∧ w.heap.size ≤ k)

theorem one_post {w wc : World} {a : Nat} {g : Option Nat} {L : List Nat} {b gb c : Nat} (h : Wr w a g L) (hb : b < 2) (hl : L.length < 8388608)
    (hbx : Blk wc a 154 #[oneOf a, .slice (some ⟨gb, 0, none⟩) (L.length / 8 + 1) c, .int .i64 L.length])
    (hox : wc.ownsRow 0 5 1 (.slice (some ⟨gb, 0, none⟩) (L.length / 8 + 1) c) (L.length / 8 + 1) ((oneMore L).map byteV))
    (hkx : Keeps (fun k => k = a ∨ some k = g) w wc) (hgx : g = some gb ∨ w.heap.size ≤ gb) :
    ∃ g', Wr ((wc.setCell ⟨gb, L.length / 8, none⟩ (byteV (byteAt L (L.length / 8) ||| b * 2 ^ (7 - L.length % 8)))).setCell ⟨a, 2, none⟩ (.int .i64 ((L.length : Int) + 1))).drew a g' (L ++ [b]) ∧
      Keeps (fun k => k = a ∨ some k = g) w ((wc.setCell ⟨gb, L.length / 8, none⟩ (byteV (byteAt L (L.length / 8) ||| b * 2 ^ (7 - L.length % 8)))).setCell ⟨a, 2, none⟩ (.int .i64 ((L.length : Int) + 1))).drew ∧ (g' = g ∨ ∃ k, g' = some k ∧ w.heap.size ≤ k) := by
  have hga : gb ≠ a := fun e => own_ne hox hbx (by decide) (by rw [← e]; rfl)
  obtain ⟨hs1, hs2⟩ := hox.stored (L.length / 8) (byteV (byteAt L (L.length / 8) ||| b * 2 ^ (7 - L.length % 8)))
  have hb1 : Blk (wc.setCell ⟨gb, L.length / 8, none⟩ (byteV (byteAt L (L.length / 8) ||| b * 2 ^ (7 - L.length % 8)))) a 154 #[oneOf a, .slice (some ⟨gb, 0, none⟩) (L.length / 8 + 1) c, .int .i64 L.length] := hbx.far (p := ⟨gb, L.length / 8, none⟩) (fun e => hga e.symm) _
  refine ⟨some gb, ⟨by simp; omega, bits_snoc h.bit hb, .slice (some ⟨gb, 0, none⟩) (L.length / 8 + 1) c, rfl, ?_, ?_⟩, ?_, ?_⟩
  · have := hb1.set 2 (.int .i64 ((L.length : Int) + 1))
    have e : (((L ++ [b]).length : Nat) : Int) = (L.length : Int) + 1 := by simp
    rw [e]
    exact this.drew
  · have e : (pack (L ++ [b])).length = L.length / 8 + 1 := by rw [pack_length]; simp; omega
    rw [e, ← pack_snoc L b hb, List.map_set]
    exact own_setCell_other (i := 2) hs1 hb1 (by decide)
  · refine ((hkx.setCell (p := ⟨gb, L.length / 8, none⟩) (fun hlt => ?_) _).setCell (fun _ => .inl rfl) _).drew
    rcases hgx with h | h
    · exact .inr h.symm
    · exact absurd hlt (by simpa using h)
  · rcases hgx with h | h
    · exact .inl h.symm
    · exact .inr ⟨gb, rfl, h⟩

set_option maxHeartbeats 800000 in
theorem one_any (w : World) (a : Nat) (g : Option Nat) (L : List Nat) (b : Nat) (h : Wr w a g L) (hb : b < 2) (hl : L.length < 8388608) :
    Calls Tryz.prog 73 #[.pointer (some ⟨a, 0, none⟩), .int .u64 b] w (OnePost w a g L b) := by
  obtain ⟨v, hv, hblk, hown⟩ := h.blk
  obtain ⟨n, hn⟩ : ∃ n, n = L.length := ⟨_, rfl⟩
  rw [← hn] at hblk hl
  have c1 := hblk.cell 1
  have c2 := hblk.cell 2
  have f1 := hblk.frozen 1
  simp at c1 c2
  have HN := Lib.hid hn
  have HH := Lib.hid h
  have HO := Lib.hid hown
  have HV := Lib.hid hv
  have HB := Lib.hid hblk
  clear hn hown hv hblk h
  go_enter Tryz.func73, Tryz.ntmps73
  go_upto_if 9 with (fail)
  go_cut [] (fun wx => Roomy w a g L wx)
  case first =>
    by_cases h8 : n % 8 = 0
    · have e8 : (((n : Int) % 8) == 0) = true := by simp; omega
      go_wp2_with (at_builtin; refine wpList_append_sl (f := fun _ => .int .u8 0) (D := fun k => k = w.heap.size) (base := 0) (n := (pack L).length) (xs := (pack L).map byteV) byteElem rfl (.tmp 14) (.tmp 15) rfl rfl rfl ?hown ?hsl ?h1 ?h63 ?hby ?hbase ?_)
      case hown => exact HO.out.alloc _
      case hsl => exact sl_one _ _ _
      case h1 => intro j _; rfl
      case h63 => have := pack_length L; have := HN.out; simp only [maxLen]; omega
      case hby => have := pack_length L; have := HN.out; omega
      case hbase => simp
      intro v1 w1 hown1 hg1 hat1
      obtain ⟨A1, k1, hv1, -, -⟩ := own_form hown1
      rw [hv1]
      rw [hv1] at hown1 hat1
      clear hv1
      obtain ⟨hb1, hr1⟩ := roomy_new (L := L) HV.out (by rw [← HN.out]; exact HB.out) HO.out (by rw [← HN.out]; exact h8) hg1 hown1 hat1
      have HR := Lib.hid hr1
      have c11 := hb1.cell 1
      have f11 := hb1.frozen 1
      simp at c11
      clear hown1 hg1 hat1 hb1 hr1
      go_wp2_with fail
      go_meet
      exact HR.out
    · have e8 : (((n : Int) % 8) == 0) = false := by simp; omega
      go_wp2_with fail
      go_meet
      exact roomy_same HH.out (by rw [← HN.out]; exact h8)
  case rest =>
    clear c1 c2 f1
    obtain ⟨gb, c, hbx, hox, hkx, hgx⟩ := hcut
    rw [← HN.out] at hbx hox
    obtain ⟨q, hq⟩ : ∃ q, q = n / 8 := ⟨_, rfl⟩
    obtain ⟨t, ht⟩ : ∃ t, t = n % 8 := ⟨_, rfl⟩
    obtain ⟨s, hs⟩ : ∃ s, s = 7 - t := ⟨_, rfl⟩
    obtain ⟨x, hx⟩ : ∃ x, x = (oneMore L).getD q 0 := ⟨_, rfl⟩
    rw [← hq] at hbx hox
    have hxb : x < 256 := hx ▸ oneMore_lt HH.out.bit q
    have hcb : wc.cell? ⟨gb, q, none⟩ = some (.int .u8 x) := by
      rw [hox.cellAt q (by omega), List.getElem?_map, List.getElem?_eq_getElem (by rw [oneMore_length, ← HN.out]; omega), hx, List.getD_eq_getElem?_getD, List.getElem?_eq_getElem (by rw [oneMore_length, ← HN.out]; omega)]
      rfl
    have hfb := hox.frozenAt q
    have c1 := hbx.cell 1
    have c2 := hbx.cell 2
    have f2 := hbx.frozen 2
    simp at c1 c2
    have hga : gb ≠ a := fun e => own_ne hox hbx (by decide) (by rw [← e]; rfl)
    have e1 : IntKind.i64.wrap ((n : Int) / 8) = (q : Int) := by rw [IntWalk.i64_in _ (by omega)]; omega
    have e2 : IntKind.i64.wrap ((n : Int) % 8) = (t : Int) := by rw [IntWalk.i64_in _ (by omega)]; omega
    have e3 : (n : Int) % 8 = (t : Int) := by omega
    have e5 : (n : Int).tmod 8 = (t : Int) := by rw [Int.tmod_eq_emod_of_nonneg (by omega)]; exact e3
    have e4 : IntKind.i64.wrap (7 - (t : Int)) = (s : Int) := by rw [IntWalk.i64_in _ (by omega)]; omega
    have hqi : (q : Int) < (q : Int) + 1 := by omega
    have hs7 : s ≤ 7 := by omega
    have HP := Lib.hid (And.intro hq (And.intro ht (And.intro hs hx)))
    have HX := Lib.hid (And.intro hbx (And.intro hox (And.intro hkx hgx)))
    clear hq ht hs hx hbx hox hkx hgx
    go_wp2
    go_still_tail 22, (by kernel_rfl)
    change wpList _ _ _ _ _ wc.drew
    clear e1 e2 e3 e4 e5
    go_wp2
    go_end0
    obtain ⟨hq, ht, hs, hx⟩ := HP.out
    obtain ⟨hbx, hox, hkx, hgx⟩ := HX.out
    obtain rfl := HN.out
    subst hq ht hs
    have hx' : x = byteAt L (L.length / 8) := hx.trans (oneMore_getD L)
    rw [one_or x b _ hxb hb hs7, hx']
    exact ⟨rfl, one_post HH.out hb hl hbx hox hkx hgx⟩
end Go.Proofs.YtopbbicjbjmdnaaGreatDoor
