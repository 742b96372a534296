/-
  Texts of this proof, joined: ColB, ColC, ColD, ColE, ColK.
-/
import Derived.Test.YtboecnakndpgfaaDoorJ01
import Derived.Great.BuildSlice
import Derived.Test.YtboecnakndpgfaaDoorJ09
import Derived.Test.YtboecnakndpgfaaDoorJ03
import Derived.Test.YtboecnakndpgfaaDoorJ04
import Derived.Test.YtboecnakndpgfaaDoorJ05
import Derived.WalkKit
import Derived.WalkSpells
import Derived.WalkLawsBesides
import Derived.Outline
import Derived.Laws.Tables
import Derived.Deep.Cut
import Derived.Test.YtboecnakndpgfaaDoorJ06
import Derived.Test.YtboecnakndpgfaaDoorJ07
namespace Go.Proofs.YtboecnakndpgfaaDoor
open Go.RowKit
set_option linter.unusedVariables false
set_option linter.unusedSimpArgs false
def upd {α : Type} (f : Fin 3 → α) (c : Fin 3) (u : α) : Fin 3 → α := fun d => if d = c then u else f d
theorem upd_same {α : Type} (f : Fin 3 → α) (c : Fin 3) (u : α) : upd f c u c = u := by unfold upd; rw [if_pos rfl]
theorem upd_ne {α : Type} (f : Fin 3 → α) {c d : Fin 3} (u : α) (h : d ≠ c) : upd f c u d = f d := by unfold upd; rw [if_neg h]
/-- Three rows of the call's own, in three blocks. -/
structure R3 (e : Fin 3 → TypeId) (w0 w : World) (x : Nat) (v : Fin 3 → Value) (l : Fin 3 → List Value) : Prop where
  own : ∀ c, w.ownsRow x (e c) 1 (v c) (l c).length (l c)
  dis : ∀ c d, c ≠ d → ∀ g, (v c).ownBlock = some g → (v d).ownBlock ≠ some g
  keep : Keeps (fun _ => False) w0 w
  base : w0.heap.size ≤ x
  size : x ≤ w.heap.size
variable {e : Fin 3 → TypeId} {w0 w w' : World} {x : Nat} {v z : Fin 3 → Value} {l : Fin 3 → List Value}
theorem grown_keeps {v : Value} (hg : w.grownBy w' v.ownBlock) : Keeps (fun k => v.ownBlock = some k) w w' := (Keeps.refl _ w).grown hg (fun k hk _ => hk)
theorem R3.alloc (h : R3 e w0 w x v l) (o : Obj) : R3 e w0 (w.alloc o) x v l :=
  ⟨fun c => (h.own c).alloc o, h.dis, h.keep.alloc o, h.base, by simp; have := h.size; omega⟩
theorem R3.drew (h : R3 e w0 w x v l) : R3 e w0 w.drew x v l := ⟨fun c => own_keeps (h.own c) ((Keeps.refl (fun _ => False) w).drew) (fun _ _ h => h), h.dis, h.keep.drew, h.base, h.size⟩
theorem R3.keeps (h : R3 e w0 w x v l) (hk : Keeps (fun _ => False) w w') : R3 e w0 w' x v l :=
  ⟨fun c => own_keeps (h.own c) hk (fun _ _ h => h), h.dis, h.keep.trans' hk, h.base, Nat.le_trans h.size hk.size⟩
theorem R3.lt (h : R3 e w0 w x v l) (c : Fin 3) {g : Nat} (hg : (v c).ownBlock = some g) : x ≤ g ∧ g < w.heap.size := (h.own c).lt g hg
theorem R3.start (e : Fin 3 → TypeId) (hk : Keeps (fun _ => False) w0 w) : R3 e w0 w w.heap.size (fun _ => .slice none 0 0) (fun _ => []) :=
  ⟨fun c => ⟨rfl, .inl ⟨rfl, rfl⟩⟩, fun _ _ _ g hg => by simp [Value.ownBlock] at hg, hk, hk.size, Nat.le_refl _⟩
theorem R3.grow (h : R3 e w0 w x v l) (c : Fin 3) {v' u : Value} (hown : w'.ownsRow x (e c) 1 v' ((l c).length + 1) (l c ++ [u])) (hg : w.grownBy w' (v c).ownBlock) (hb : v'.ownBlock = (v c).ownBlock ∨ v'.ownBlock = some w.heap.size) :
    R3 e w0 w' x (upd v c v') (upd l c (l c ++ [u])) := by
  have hk := grown_keeps hg
  refine ⟨fun d => ?_, fun c1 d1 hne g hg1 hg2 => ?_, h.keep.trans hk (fun k hk e => by have := (h.lt c e).1; have := h.base; omega), h.base, Nat.le_trans h.size hk.size⟩
  · by_cases hd : d = c
    · subst hd
      rw [upd_same, upd_same, List.length_append]
      exact hown
    · rw [upd_ne _ _ hd, upd_ne _ _ hd]
      exact own_keeps (h.own d) hk (fun g hg e => h.dis d c hd g hg e)
  · by_cases h1 : c1 = c
    · subst h1
      rw [upd_same] at hg1
      rw [upd_ne _ _ (Ne.symm hne)] at hg2
      rcases hb with hb | hb
      · exact h.dis c1 d1 hne g (by rw [← hb]; exact hg1) hg2
      · rw [hb] at hg1; injection hg1 with hg1; have := (h.lt d1 hg2).2; omega
    · rw [upd_ne _ _ h1] at hg1
      by_cases h2 : d1 = c
      · subst h2
        rw [upd_same] at hg2
        rcases hb with hb | hb
        · exact h.dis c1 d1 hne g hg1 (by rw [← hb]; exact hg2)
        · rw [hb] at hg2; injection hg2 with hg2; have := (h.lt c1 hg1).2; omega
      · rw [upd_ne _ _ h2] at hg2
        exact h.dis c1 d1 hne g hg1 hg2
/-- How far an append has come: not begun; its one cell built; appended. -/
inductive Sg
  | z
  | b (q : Nat)
  | r (q : Nat) (v : Value)
def Sg.row (v : Value) : Sg → Value
  | .r _ v' => v'
  | _ => v
def Sg.lst (l : List Value) (z : Value) : Sg → List Value
  | .r _ _ => l ++ [z]
  | _ => l
def oneAt (q : Nat) : Value := .slice (some ⟨q, 0, none⟩) 1 1
structure W3 (e : Fin 3 → TypeId) (w0 : World) (x : Nat) (v z : Fin 3 → Value) (l : Fin 3 → List Value) (y : Nat) (Y : Option Obj) (s : Fin 3 → Sg) (w : World) : Prop where
  r : R3 e w0 w x (fun c => (s c).row (v c)) (fun c => (s c).lst (l c) (z c))
  cel : ∀ c q, s c = .b q → w.cell? ⟨q, 0 + 0, none⟩ = some (z c) ∧ ∀ d g, ((s d).row (v d)).ownBlock = some g → g ≠ q
  yk : w.heap[y]? = Y
  yn : ∀ d g, ((s d).row (v d)).ownBlock = some g → g ≠ y
  yl : y < w.heap.size
variable {y : Nat} {Y : Option Obj} {s : Fin 3 → Sg}
theorem row_b {v : Fin 3 → Value} {s : Fin 3 → Sg} {c : Fin 3} (hs : s c = .z) (q : Nat) : (fun d => (upd s c (.b q) d).row (v d)) = fun d => (s d).row (v d) := by
  funext d
  by_cases h : d = c
  · subst h; rw [upd_same, hs]; rfl
  · rw [upd_ne _ _ h]
theorem lst_b {l : Fin 3 → List Value} {z : Fin 3 → Value} {s : Fin 3 → Sg} {c : Fin 3} (hs : s c = .z) (q : Nat) : (fun d => (upd s c (.b q) d).lst (l d) (z d)) = fun d => (s d).lst (l d) (z d) := by
  funext d
  by_cases h : d = c
  · subst h; rw [upd_same, hs]; rfl
  · rw [upd_ne _ _ h]
theorem row_r {v : Fin 3 → Value} (s : Fin 3 → Sg) (c : Fin 3) (q : Nat) (v' : Value) : (fun d => (upd s c (.r q v') d).row (v d)) = upd (fun d => (s d).row (v d)) c v' := by
  funext d
  by_cases h : d = c
  · subst h; rw [upd_same, upd_same]; rfl
  · rw [upd_ne _ _ h, upd_ne _ _ h]
theorem lst_r {l : Fin 3 → List Value} {z : Fin 3 → Value} {s : Fin 3 → Sg} {c : Fin 3} {q : Nat} (hs : s c = .b q) (v' : Value) : (fun d => (upd s c (.r q v') d).lst (l d) (z d)) = upd (fun d => (s d).lst (l d) (z d)) c ((s c).lst (l c) (z c) ++ [z c]) := by
  funext d
  by_cases h : d = c
  · subst h; rw [upd_same, upd_same, hs]; rfl
  · rw [upd_ne _ _ h, upd_ne _ _ h]
theorem W3.bld (h : W3 e w0 x v z l y Y s w) {c : Fin 3} (hs : s c = .z) (t : TypeId) : W3 e w0 x v z l y Y (upd s c (.b w.heap.size)) (w.alloc (.cells #[z c] t)) := by
  have er := row_b (v := v) hs w.heap.size
  have er' : ∀ d, (upd s c (.b w.heap.size) d).row (v d) = (s d).row (v d) := fun d => congrFun er d
  refine ⟨?_, fun d q hq => ?_, ?_, fun d g hg => ?_, by simp; have := h.yl; omega⟩
  · rw [er, lst_b hs]
    exact h.r.alloc _
  · have hg : ∀ d' g, ((upd s c (.b w.heap.size) d').row (v d')).ownBlock = some g → x ≤ g ∧ g < w.heap.size := fun d' g hg => by rw [er' d'] at hg; exact h.r.lt d' hg
    by_cases hd : d = c
    · subst hd
      rw [upd_same] at hq
      injection hq with hq
      subst hq
      exact ⟨cell_one w t (z d) 0 (by omega), fun d' g hg' => by have := (hg d' g hg').2; omega⟩
    · rw [upd_ne _ _ hd] at hq
      obtain ⟨h1, h2⟩ := h.cel d q hq
      exact ⟨(World.cell?_alloc_lt w _ _ (World.block_lt_of_cell? w _ h1)).trans h1, fun d' g hg' => h2 d' g (by rw [er' d'] at hg'; exact hg')⟩
  · rw [← h.yk]; exact Below.heap_alloc _ _ _ h.yl
  · rw [er' d] at hg; exact h.yn d g hg
theorem W3.app (h : W3 e w0 x v z l y Y s w) {c : Fin 3} {q : Nat} (hs : s c = .b q) {v' : Value} (hown : w'.ownsRow x (e c) 1 v' (((s c).lst (l c) (z c)).length + 1) ((s c).lst (l c) (z c) ++ [z c])) (hg : w.grownBy w' ((s c).row (v c)).ownBlock)
    (hb : v'.ownBlock = ((s c).row (v c)).ownBlock ∨ v'.ownBlock = some w.heap.size) : W3 e w0 x v z l y Y (upd s c (.r q v')) w' := by
  have hk := grown_keeps hg
  have er := row_r (v := v) s c q v'
  have er' : ∀ d, (upd s c (.r q v') d).row (v d) = upd (fun d => (s d).row (v d)) c v' d := fun d => congrFun er d
  have hrow : ∀ d g, ((upd s c (.r q v') d).row (v d)).ownBlock = some g → (∃ d', ((s d').row (v d')).ownBlock = some g) ∨ g = w.heap.size := fun d g hg' => by
    rw [er' d] at hg'
    by_cases hd : d = c
    · subst hd
      rw [upd_same] at hg'
      rcases hb with hb | hb
      · exact .inl ⟨d, by rw [← hb]; exact hg'⟩
      · rw [hb] at hg'; injection hg' with hg'; exact .inr hg'.symm
    · rw [upd_ne _ _ hd] at hg'; exact .inl ⟨d, hg'⟩
  refine ⟨?_, fun d q2 hq => ?_, ?_, fun d g hg' => ?_, Nat.lt_of_lt_of_le h.yl hk.size⟩
  · rw [er, lst_r hs]
    exact h.r.grow c hown hg hb
  · by_cases hd : d = c
    · subst hd; rw [upd_same] at hq; cases hq
    · rw [upd_ne _ _ hd] at hq
      obtain ⟨h1, h2⟩ := h.cel d q2 hq
      have hlt := World.block_lt_of_cell? w _ h1
      refine ⟨(World.cell?_of_block (w := w) (a := ⟨q2, 0 + 0, none⟩) (hk.block q2 hlt (fun e => h2 c q2 e rfl))).trans h1, fun d' g hg' => ?_⟩
      rcases hrow d' g hg' with ⟨d2, h3⟩ | h3
      · exact h2 d2 g h3
      · have : q2 < w.heap.size := hlt
        omega
  · rw [← h.yk]; exact hk.block y h.yl (fun e => h.yn c y e rfl)
  · rcases hrow d g hg' with ⟨d2, h3⟩ | h3
    · exact h.yn d2 g h3
    · have := h.yl; omega
theorem put_comm {a : Act} {i j : Nat} (h : i ≠ j) (u u' : Value) : (a.put (some i) u).put (some j) u' = (a.put (some j) u').put (some i) u := by
  unfold Act.put
  simp only
  rw [Array.setIfInBounds_comm _ _ h]
theorem put_eval_ne {a : Act} {i j : Nat} (h : i ≠ j) (u : Value) : (a.put (some j) u).eval (.tmp i) = a.eval (.tmp i) := by
  simp [Act.put, Act.eval, Array.getElem?_setIfInBounds, Array.getD_eq_getD_getElem?, Ne.symm h]
theorem put_eval_same {a : Act} {i : Nat} (h : i < a.tmps.size) (u : Value) : (a.put (some i) u).eval (.tmp i) = u := by
  simp [Act.put, Act.eval, Array.getElem?_setIfInBounds, Array.getD_eq_getD_getElem?, h]
theorem put_size (a : Act) (i : Nat) (u : Value) : (a.put (some i) u).tmps.size = a.tmps.size := by simp [Act.put]
def Sg.puts (tb tr : Nat) : Sg → Act → Act
  | .z, a => a
  | .b q, a => a.put (some tb) (oneAt q)
  | .r q v, a => (a.put (some tb) (oneAt q)).put (some tr) v
theorem puts_z (tb tr : Nat) (a : Act) : Sg.puts tb tr .z a = a := rfl
theorem puts_b (tb tr q : Nat) (a : Act) : Sg.puts tb tr (.b q) a = a.put (some tb) (oneAt q) := rfl
theorem puts_r (tb tr q : Nat) (v : Value) (a : Act) : Sg.puts tb tr (.r q v) a = (a.put (some tb) (oneAt q)).put (some tr) v := rfl
theorem puts_put (s : Sg) {tb tr i : Nat} (h1 : i ≠ tb) (h2 : i ≠ tr) (a : Act) (u : Value) : s.puts tb tr (a.put (some i) u) = (s.puts tb tr a).put (some i) u := by
  cases s with
  | z => rfl
  | b q => rw [puts_b, puts_b, put_comm h1]
  | r q v => rw [puts_r, puts_r, put_comm h1, put_comm h2]
theorem puts_size (s : Sg) (tb tr : Nat) (a : Act) : (s.puts tb tr a).tmps.size = a.tmps.size := by cases s <;> simp [Sg.puts, put_size]
theorem puts_eval (s : Sg) {tb tr i : Nat} (h1 : i ≠ tb) (h2 : i ≠ tr) (a : Act) : (s.puts tb tr a).eval (.tmp i) = a.eval (.tmp i) := by
  cases s <;> simp [Sg.puts, put_eval_ne h1, put_eval_ne h2]
def act3 (tb tr : Fin 3 → Nat) (s : Fin 3 → Sg) (a : Act) : Act := (s 2).puts (tb 2) (tr 2) ((s 1).puts (tb 1) (tr 1) ((s 0).puts (tb 0) (tr 0) a))
/-- The slots of the three appends are six. -/
def Six (tb tr : Fin 3 → Nat) : Prop := ∀ c d, (c ≠ d → tb c ≠ tb d ∧ tr c ≠ tr d) ∧ tb c ≠ tr d
theorem act3_bld {tb tr : Fin 3 → Nat} (h6 : Six tb tr) {s : Fin 3 → Sg} {c : Fin 3} (hs : s c = .z) (q : Nat) (a : Act) : (act3 tb tr s a).put (some (tb c)) (oneAt q) = act3 tb tr (upd s c (.b q)) a := by
  have hb := fun c d h => ((h6 c d).1 h).1
  have hr := fun c d => (h6 c d).2
  unfold act3
  match c, hs with
  | 0, hs => rw [upd_same, upd_ne _ _ (by decide), upd_ne _ _ (by decide), hs, puts_b, puts_put _ (hb 0 1 (by decide)) (hr 0 1), puts_put _ (hb 0 2 (by decide)) (hr 0 2), puts_z]
  | 1, hs => rw [upd_same, upd_ne _ _ (by decide), upd_ne _ _ (by decide), hs, puts_b, puts_put _ (hb 1 2 (by decide)) (hr 1 2), puts_z]
  | 2, hs => rw [upd_same, upd_ne _ _ (by decide), upd_ne _ _ (by decide), hs]; rfl
theorem act3_app {tb tr : Fin 3 → Nat} (h6 : Six tb tr) {s : Fin 3 → Sg} {c : Fin 3} {q : Nat} (hs : s c = .b q) (v' : Value) (a : Act) : (act3 tb tr s a).put (some (tr c)) v' = act3 tb tr (upd s c (.r q v')) a := by
  have hb := fun c d h => ((h6 c d).1 h).2
  have hr := fun c d => ((h6 c d).2).symm
  unfold act3
  match c, hs with
  | 0, hs => rw [upd_same, upd_ne _ _ (by decide), upd_ne _ _ (by decide), hs, puts_r, puts_put _ (hr 1 0) (hb 0 1 (by decide)), puts_put _ (hr 2 0) (hb 0 2 (by decide)), puts_b]
  | 1, hs => rw [upd_same, upd_ne _ _ (by decide), upd_ne _ _ (by decide), hs, puts_r, puts_put _ (hr 2 1) (hb 1 2 (by decide)), puts_b]
  | 2, hs => rw [upd_same, upd_ne _ _ (by decide), upd_ne _ _ (by decide), hs]; rfl
theorem act3_eval {tb tr : Fin 3 → Nat} (s : Fin 3 → Sg) {i : Nat} (h : ∀ c, i ≠ tb c ∧ i ≠ tr c) (a : Act) : (act3 tb tr s a).eval (.tmp i) = a.eval (.tmp i) := by
  unfold act3
  rw [puts_eval _ (h 2).1 (h 2).2, puts_eval _ (h 1).1 (h 1).2, puts_eval _ (h 0).1 (h 0).2]
theorem act3_size (tb tr : Fin 3 → Nat) (s : Fin 3 → Sg) (a : Act) : (act3 tb tr s a).tmps.size = a.tmps.size := by unfold act3; rw [puts_size, puts_size, puts_size]
theorem act3_blt {tb tr : Fin 3 → Nat} (h6 : Six tb tr) {s : Fin 3 → Sg} {c : Fin 3} {q : Nat} (hs : s c = .b q) (a : Act) (hsz : tb c < a.tmps.size) : (act3 tb tr s a).eval (.tmp (tb c)) = oneAt q := by
  have e : s = upd (upd s c .z) c (.b q) := by
    funext d
    by_cases h : d = c
    · subst h; rw [upd_same, hs]
    · rw [upd_ne _ _ h, upd_ne _ _ h]
  rw [e, ← act3_bld h6 (upd_same _ _ _), put_eval_same (by rw [act3_size]; exact hsz)]
def Sg.b1 : Sg → Bool
  | .z => false
  | _ => true
def Sg.b2 : Sg → Bool
  | .r _ _ => true
  | _ => false
def Sg.nx (i j : Nat) : Sg → List Nat
  | .z => [i]
  | .b _ => [j]
  | .r _ _ => []
/-- The same where an append waits for the one ahead of it (bb: that one is done). -/
def Sg.nxc (bb : Bool) (i j : Nat) : Sg → List Nat
  | .z => [i]
  | .b _ => if bb = true then [j] else []
  | .r _ _ => []
def cnx (jb ja : Fin 3 → Nat) (s : Fin 3 → Sg) : List Nat := (s 0).nxc true (jb 0) (ja 0) ++ ((s 1).nxc (s 0).b2 (jb 1) (ja 1) ++ (s 2).nxc (s 1).b2 (jb 2) (ja 2))
def okc (s : Fin 3 → Sg) : Prop := ((s 1).b2 = true → (s 0).b2 = true) ∧ ((s 2).b2 = true → (s 1).b2 = true)
theorem okc_bld {s : Fin 3 → Sg} (h : okc s) {c : Fin 3} (hs : s c = .z) (q : Nat) : okc (upd s c (.b q)) := by
  have e : ∀ d, (upd s c (.b q) d).b2 = (s d).b2 := fun d => by
    by_cases hd : d = c
    · subst hd; rw [upd_same, hs]; rfl
    · rw [upd_ne _ _ hd]
  unfold okc
  rw [e, e, e]
  exact h
theorem okc_app {s : Fin 3 → Sg} (h : okc s) {c : Fin 3} {q : Nat} (hs : s c = .b q) (hp : c = 0 ∨ c = 1 ∧ (s 0).b2 = true ∨ c = 2 ∧ (s 1).b2 = true) (v' : Value) : okc (upd s c (.r q v')) := by
  have hf : (s c).b2 = false := by rw [hs]; rfl
  rcases hp with rfl | ⟨rfl, hb⟩ | ⟨rfl, hb⟩
  · exact ⟨fun _ => by rw [upd_same]; rfl, fun h2 => by rw [upd_ne _ _ (by decide)] at h2 ⊢; exact h.2 h2⟩
  · exact ⟨fun _ => by rw [upd_ne _ _ (by decide)]; exact hb, fun _ => by rw [upd_same]; rfl⟩
  · exact ⟨fun h2 => by rw [upd_ne _ _ (by decide)] at h2 ⊢; exact h.1 h2, fun _ => by rw [upd_ne _ _ (by decide)]; exact hb⟩
def Sg.left : Sg → Nat
  | .z => 2
  | .b _ => 1
  | .r _ _ => 0
def left3 (s : Fin 3 → Sg) : Nat := (s 0).left + (s 1).left + (s 2).left
theorem left3_upd (s : Fin 3 → Sg) (c : Fin 3) (g : Sg) (h : g.left + 1 = (s c).left) : left3 (upd s c g) + 1 = left3 s := by
  unfold left3
  match c, h with
  | 0, h => rw [upd_same, upd_ne _ _ (by decide), upd_ne _ _ (by decide)]; omega
  | 1, h => rw [upd_same, upd_ne _ _ (by decide), upd_ne _ _ (by decide)]; omega
  | 2, h => rw [upd_same, upd_ne _ _ (by decide), upd_ne _ _ (by decide)]; omega
section
variable {P : Program} {ops : Array Oper} {Q : Exit → Act → World → Prop} {S : World → Prop}
theorem step_build {o : Oper} {a : Act} {w : World} {K : Act → World → Prop} {E : Prop} (t e : TypeId) (hgd : o.guard = none) (x : Operand) {u zz : Value} (ho : o.op = .buildSlice t 1 #[(0, x)]) (hx : a.eval x = u) (hu1 : u.oneCell' = true) {bytes : Nat}
    (he : Elem1 P t e zz bytes) (h : K (a.put o.dst (oneAt w.heap.size)) (w.alloc (.cells #[u] e))) :
    if Region.wanted o (yielded ops a.tmps) = true then Oper.wp P o a w K Q else E := by
  have hw : Region.wanted o (yielded ops a.tmps) = true := by simp [Region.wanted, hgd]
  rw [if_pos hw]
  obtain ⟨ht, hz1, i, hi, hz, hs, hb⟩ := he
  refine wp_buildSlice t e 1 #[(0, x)] ho #[u] i zz ht hi hz (by rw [hs]; decide) (by rw [hs]; decide) ?_ h
  have hone : u.cells = #[u] := by cases u <;> first | rfl | simp [Value.oneCell'] at hu1
  have h1 : ∀ A : Array Value, A.size = 1 → A.setIfInBounds 0 u = #[u] := fun A hA => by
    apply Array.ext
    · simp [hA]
    · intro j h1 h2
      have : j = 0 := by simp at h2; omega
      subst this
      simp
  simp [Instr.fill, hx, hs, hone]
  exact h1 _ (by simp)
end
/-- What the law of the three appends asks of the region. -/
structure Reg3 (P : Program) (ops : Array Oper) (tb tr : Fin 3 → Nat) (jb ja : Fin 3 → Nat) (tm tv : Fin 3 → Nat) (t e : Fin 3 → TypeId) (zz : Fin 3 → Value) (by_ : Fin 3 → Nat) (lst : (Fin 3 → Sg) → Array Bool) : Prop where
  six : Six tb tr
  elem : ∀ c, Elem1 P (t c) (e c) (zz c) (by_ c)
  bop : ∀ c, ∃ o, ops[jb c]? = some o ∧ o.guard = none ∧ o.op = .buildSlice (t c) 1 #[(0, .tmp (tv c))] ∧ o.dst = some (tb c)
  aop : ∀ c, ∃ o, ops[ja c]? = some o ∧ o.guard = none ∧ o.op = .call { callee := .builtin .append, args := #[.tmp (tm c), .tmp (tb c)], argTypes := #[t c, t c] } ∧ o.dst = some (tr c)
  off : ∀ c d, (tm c ≠ tb d ∧ tm c ≠ tr d) ∧ (tv c ≠ tb d ∧ tv c ≠ tr d)
  lb : ∀ s c q, s c = .z → (lst s).setIfInBounds (jb c) true = lst (upd s c (.b q))
  lr : ∀ s c q v', s c = .b q → (lst s).setIfInBounds (ja c) true = lst (upd s c (.r q v'))
  ready : ∀ s, okc s → 0 < left3 s → Region.ready .any ops (lst s) = cnx jb ja s
theorem run3 {P : Program} {ops : Array Oper} {Q : Exit → Act → World → Prop} {S : World → Prop} {tb tr jb ja tm tv : Fin 3 → Nat} {t : Fin 3 → TypeId} {zz : Fin 3 → Value} {by_ : Fin 3 → Nat} {lst : (Fin 3 → Sg) → Array Bool}
    (hR : Reg3 P ops tb tr jb ja tm tv t e zz by_ lst) (a : Act) (hsz : ∀ c, tb c < a.tmps.size) (hm : ∀ c, a.eval (.tmp (tm c)) = v c) (hv : ∀ c, a.eval (.tmp (tv c)) = z c) (h1 : ∀ c, (z c).oneCell' = true) (hl : ∀ c, (l c).length + 1 ≤ maxLen ∧ ((l c).length + 1) * by_ c ≤ 140737488355328)
    (hS : ∀ s w, W3 e w0 x v z l y Y s w → S w) (fuel : Nat)
    (hend : ∀ s w, left3 s = 0 → W3 e w0 x v z l y Y s w → wpAnyH P .any ops Q S fuel (lst s) (act3 tb tr s a) w) :
    ∀ m s w, left3 s = m → okc s → W3 e w0 x v z l y Y s w → wpAnyH P .any ops Q S (fuel + m) (lst s) (act3 tb tr s a) w
  | 0, s, w, hm0, _, hW => hend s w hm0 hW
  | m + 1, s, w, hm0, hok, hW => by
    have ih := run3 hR a hsz hm hv h1 hl hS fuel hend m
    have go1 : ∀ c, s c = .z → AllReadyH P .any ops Q S (fuel + m) (lst s) (act3 tb tr s a) w [jb c] := by
      intro c hs
      obtain ⟨o, ho, hgd, hop, hdst⟩ := hR.bop c
      refine AllReadyH.cons ho (fun K hK => ?_) AllReadyH.nil
      refine step_build (t c) (e c) hgd _ hop ((act3_eval s (fun d => (hR.off c d).2) a).trans (hv c)) (h1 c) (hR.elem c) ?_
      rw [hdst, act3_bld hR.six hs]
      have hW' := hW.bld hs (e c)
      refine hK.out _ _ (hS _ _ hW') (fun _ => ?_)
      rw [hR.lb s c w.heap.size hs]
      exact ih _ _ (by have := left3_upd s c (.b w.heap.size) (by rw [hs]; rfl); omega) (okc_bld hok hs _) hW'
    have go2 : ∀ c q, s c = .b q → (c = 0 ∨ c = 1 ∧ (s 0).b2 = true ∨ c = 2 ∧ (s 1).b2 = true) → AllReadyH P .any ops Q S (fuel + m) (lst s) (act3 tb tr s a) w [ja c] := by
      intro c q hs hp
      obtain ⟨o, ho, hgd, hop, hdst⟩ := hR.aop c
      refine AllReadyH.cons ho (fun K hK => ?_) AllReadyH.nil
      obtain ⟨hc, -⟩ := hW.cel c q hs
      have hown := hW.r.own c
      simp only [hs] at hown
      refine step_append_sl (A := some ⟨q, 0, none⟩) (c := 1) (D := fun _ => True) (m := 1) (f := fun _ => z c) (hR.elem c) hgd _ _ hop ((act3_eval s (fun d => (hR.off c d).1) a).trans (hm c)) (act3_blt hR.six hs a (hsz c)) hown
        (fun _ => ⟨q, 0, rfl, trivial, fun j hj => by obtain rfl : j = 0 := by omega
                                                      exact hc⟩) (fun _ _ => h1 c) (hl c).1 (hl c).2 hW.r.size ?_
      intro v' w' h2 h3 h4
      rw [hdst, act3_app hR.six hs]
      have hW' := hW.app (w' := w') (v' := v') hs (by rw [hs]; exact h2) (by rw [hs]; exact h3) (by rw [hs]; exact h4)
      refine hK.out _ _ (hS _ _ hW') (fun _ => ?_)
      rw [hR.lr s c q v' hs]
      exact ih _ _ (by have := left3_upd s c (.r q v') (by rw [hs]; rfl); omega) (okc_app hok hs hp v') hW'
    have go : ∀ c bb, (bb = true → c = 0 ∨ c = 1 ∧ (s 0).b2 = true ∨ c = 2 ∧ (s 1).b2 = true) → AllReadyH P .any ops Q S (fuel + m) (lst s) (act3 tb tr s a) w ((s c).nxc bb (jb c) (ja c)) := by
      intro c bb hbb
      cases hs : s c with
      | z => exact go1 c hs
      | b q =>
        show AllReadyH P .any ops Q S (fuel + m) (lst s) (act3 tb tr s a) w (if bb = true then [ja c] else [])
        cases bb with
        | false => exact AllReadyH.nil
        | true => exact go2 c q hs (hbb rfl)
      | r q v' => exact AllReadyH.nil
    refine wpAnyH_ready (hR.ready s hok (by omega)) ?_ ?_
    · intro h0
      unfold cnx at h0
      simp only [List.append_eq_nil_iff] at h0
      obtain ⟨g0, g1, g2⟩ := h0
      have hz : ∀ g : Sg, ∀ i j, g.nxc true i j = [] → g.left = 0 ∧ g.b2 = true := fun g i j h => by cases g <;> first | exact ⟨rfl, rfl⟩ | cases h
      have k0 := hz _ _ _ g0
      rw [k0.2] at g1
      have k1 := hz _ _ _ g1
      rw [k1.2] at g2
      have k2 := hz _ _ _ g2
      have := k0.1
      have := k1.1
      have := k2.1
      unfold left3 at hm0
      omega
    · intro i hi
      rcases List.mem_append.1 hi with h | h
      · exact go 0 true (fun _ => .inl rfl) i h
      · rcases List.mem_append.1 h with h | h
        · exact go 1 _ (fun hb => .inr (.inl ⟨rfl, hb⟩)) i h
        · exact go 2 _ (fun hb => .inr (.inr ⟨rfl, hb⟩)) i h
end Go.Proofs.YtboecnakndpgfaaDoor
namespace Go.Proofs.YtboecnakndpgfaaDoor
open Go.RowKit
set_option linter.unusedVariables false
set_option linter.unusedSimpArgs false
def tOf (f : Nat → Pt) (n j : Nat) : Int := if j < n then (f j).t else 0
def sOf (f : Nat → Pt) (n j : Nat) : Int := if j < n then (f j).s else 0
def vOf (f : Nat → Pt) (n j : Nat) : Nat := if j < n then (IntKind.u64.wrap (f j).v).toNat else 0
/-- The three parts of a column. -/
def partA (f : Nat → Pt) (n : Nat) : Nat → List Nat
  | 0 => pack (D.encTo (tOf f n) n)
  | 1 => pack (X.xencTo (vOf f n) n)
  | _ => pack (D.encTo (sOf f n) n)
def colUp (f : Nat → Pt) (n : Nat) : Nat → List Nat
  | 0 => V.vput n
  | j + 1 => colUp f n j ++ V.vput (partA f n j).length ++ partA f n j
def colL (f : Nat → Pt) (n : Nat) : List Nat × Int := if colV f n = true then (F.sealL 3 (colUp f n 3), 0) else ([], 2)
theorem u64_lt (v : Int) : (IntKind.u64.wrap v).toNat < 18446744073709551616 := by rw [IntKind.wrap_u64]; omega
theorem vOf_lt (f : Nat → Pt) (n j : Nat) : vOf f n j < 18446744073709551616 := by
  unfold vOf
  split
  · exact u64_lt _
  · omega
theorem partA_byte (f : Nat → Pt) (n j : Nat) : ∀ i, (partA f n j).getD i 0 < 256 := by
  intro i
  match j with
  | 0 => show (pack _).getD i 0 < 256; rw [pack_getD]; exact byteAt_lt (D.encTo_bit _ _) i
  | 1 => show (pack _).getD i 0 < 256; rw [pack_getD]; exact byteAt_lt (X.xencTo_bit _ _) i
  | j + 2 => show (pack _).getD i 0 < 256; rw [pack_getD]; exact byteAt_lt (D.encTo_bit _ _) i
theorem partA_len (f : Nat → Pt) (n j : Nat) (hn : n ≤ 4096) : (partA f n j).length ≤ 40000 := by
  match j with
  | 0 => show (pack _).length ≤ _; rw [pack_length]; have := D.encTo_len (tOf f n) n; omega
  | 1 => show (pack _).length ≤ _; rw [pack_length]; have := X.xencTo_len (vOf f n) n; omega
  | j + 2 => show (pack _).length ≤ _; rw [pack_length]; have := D.encTo_len (sOf f n) n; omega
theorem vput_getD (u : Nat) : ∀ i, (V.vput u).getD i 0 < 256 := V.getD_all_lt (V.vput_byte u)
theorem colUp_byte (f : Nat → Pt) (n : Nat) : ∀ j i, (colUp f n j).getD i 0 < 256
  | 0 => vput_getD n
  | j + 1 => V.getD_app_lt (V.getD_app_lt (colUp_byte f n j) (vput_getD _)) (partA_byte f n j)
theorem colUp_len (f : Nat → Pt) (n : Nat) (hn : n ≤ 4096) : ∀ j, (colUp f n j).length ≤ 10 + j * 40010
  | 0 => by have := V.vput_len10 (u := n) (by omega); show (V.vput n).length ≤ _; omega
  | j + 1 => by
    have h1 := colUp_len f n hn j
    have h2 := partA_len f n j hn
    have h3 := V.vput_len10 (u := (partA f n j).length) (by omega)
    show (colUp f n j ++ V.vput (partA f n j).length ++ partA f n j).length ≤ _
    rw [List.length_append, List.length_append]
    omega
theorem colOk_range {f : Nat → Pt} {n : Nat} (h : colV f n = true) (j : Nat) (hj : j < n) : -9223372036854775808 ≤ (f j).t ∧ (f j).t ≤ 9223372036854775807 ∧ -9223372036854775808 ≤ (f j).s ∧ (f j).s ≤ 9223372036854775807 := by
  have ha := (colV_spec h).1
  have hl : ∀ m, m < n → -1152921504606846977 ≤ colT f m := by
    intro m
    induction m with
    | zero => intro _; exact Int.le_refl _
    | succ m ih =>
      intro hm
      have h4 := (colOk_iff f m).1 (colAll_at n ha m (by omega))
      have := ih (by omega)
      show _ ≤ (f m).t
      omega
  have h4 := (colOk_iff f j).1 (colAll_at n ha j hj)
  have := hl j hj
  omega
theorem tOf_range {f : Nat → Pt} {n : Nat} (h : colV f n = true) (j : Nat) : -9223372036854775808 ≤ tOf f n j ∧ tOf f n j ≤ 9223372036854775807 := by
  unfold tOf
  split
  · rename_i hj; have := colOk_range h j hj; omega
  · omega
theorem sOf_range {f : Nat → Pt} {n : Nat} (h : colV f n = true) (j : Nat) : -9223372036854775808 ≤ sOf f n j ∧ sOf f n j ≤ 9223372036854775807 := by
  unfold sOf
  split
  · rename_i hj; have := colOk_range h j hj; omega
  · omega
/-- The cells of the three rows: times, values, numbers. -/
def colC (f : Nat → Pt) (c : Fin 3) (j : Nat) : Value :=
  match c with
  | 0 => .int .i64 (f j).t
  | 1 => .int .u64 (IntKind.u64.wrap (f j).v)
  | 2 => .int .i64 (f j).s
def colRow (f : Nat → Pt) (k : Nat) (c : Fin 3) : List Value := (List.range k).map (colC f c)
theorem colRow_len (f : Nat → Pt) (k : Nat) (c : Fin 3) : (colRow f k c).length = k := by simp [colRow]
theorem colRow_succ (f : Nat → Pt) (k : Nat) (c : Fin 3) : colRow f (k + 1) c = colRow f k c ++ [colC f c k] := by unfold colRow; rw [List.range_succ, List.map_append]; rfl
def cE (c : Fin 3) : TypeId := match c with | 0 => 3 | 1 => 51 | 2 => 3
def cT (c : Fin 3) : TypeId := match c with | 0 => 45 | 1 => 48 | 2 => 45
def cZ (c : Fin 3) : Value := match c with | 0 => .int .i64 0 | 1 => .int .u64 0 | 2 => .int .i64 0
theorem cElem (c : Fin 3) : Elem1 Tryd.prog (cT c) (cE c) (cZ c) 8 :=
  match c with
  | 0 => Elem1.mk' Tryd.underlying45 rfl (by kernel_rfl)
  | 1 => Elem1.mk' Tryd.underlying48 rfl (by kernel_rfl)
  | 2 => Elem1.mk' Tryd.underlying45 rfl (by kernel_rfl)
theorem map_sl {w : World} {base : Nat} {e : TypeId} {n c : Nat} {A : Option Addr} {g g' : Nat → Value} (ho : w.ownsRow base e 1 (.slice A n c) n ((List.range n).map g)) (h : ∀ j, j < n → g j = g' j) : Sl w (fun k => (Value.slice A n c).ownBlock = some k) A n g' := by
  refine Sl.of_own ho ?_
  intro j u hu
  rw [List.getElem?_map] at hu
  rcases Nat.lt_or_ge j n with hj | hj
  · rw [List.getElem?_range hj] at hu
    rw [← h j hj]
    simpa using hu.symm
  · rw [List.getElem?_eq_none (by simpa using hj)] at hu
    cases hu
theorem txt_strB {bs : List Nat} (h : ∀ j, bs.getD j 0 < 256) : V.txt (strB bs) = bs := by
  unfold V.txt strB
  simp only [List.map_map]
  conv => rhs; rw [← List.map_id bs]
  apply List.map_congr_left
  intro b hb
  have : b < 256 := F.mem_byte h b hb
  simp
  omega
theorem strB_size (bs : List Nat) : (strB bs).size = bs.length := by simp [strB, ByteArray.size]
/-- What stands behind the rows of the first n points. -/
structure Rows3 (w0 w : World) (f : Nat → Pt) (n : Nat) (v : Fin 3 → Value) : Prop where
  r : R3 cE w0 w w0.heap.size v (colRow f n)
theorem r3_sl {w0 w : World} {x n : Nat} {v : Fin 3 → Value} {f : Nat → Pt} (h : R3 cE w0 w x v (colRow f n)) (c : Fin 3) : ∃ A cap, v c = .slice A n cap ∧ n ≤ cap ∧ ∀ g', (∀ j, j < n → colC f c j = g' j) → Sl w (fun k => k < w.heap.size) A n g' := by
  have ho := h.own c
  rw [colRow_len] at ho
  obtain ⟨A, cap, hv, hc, -⟩ := own_form ho
  rw [hv] at ho
  refine ⟨A, cap, hv, hc, fun g' hg => (map_sl ho hg).mono (fun k hk => (ho.lt k hk).2)⟩
theorem col_t {f : Nat → Pt} {n j : Nat} (h : j < n) : colC f 0 j = .int .i64 (tOf f n j) := by unfold tOf; rw [if_pos h]; rfl
theorem col_s {f : Nat → Pt} {n j : Nat} (h : j < n) : colC f 2 j = .int .i64 (sOf f n j) := by unfold sOf; rw [if_pos h]; rfl
theorem col_v {f : Nat → Pt} {n j : Nat} (h : j < n) : colC f 1 j = .int .u64 (vOf f n j : Nat) := by
  unfold vOf; rw [if_pos h]
  show Value.int .u64 _ = _
  congr 1
  rw [IntKind.wrap_u64]; omega
/-- A part that an encoder has given. -/
structure PartIs (w0 w : World) (A : Option Addr) (c : Nat) (bs : List Nat) : Prop where
  own : w.ownsRow w0.heap.size 5 1 (.slice A bs.length c) bs.length (bs.map byteV)
theorem PartIs.keeps {w0 w w' : World} {A : Option Addr} {c : Nat} {bs : List Nat} (h : PartIs w0 w A c bs) (hk : Keeps (fun _ => False) w w') : PartIs w0 w' A c bs := ⟨own_keeps h.own hk (fun _ _ h => h)⟩
theorem PartIs.sl {w0 w : World} {A : Option Addr} {c : Nat} {bs : List Nat} (h : PartIs w0 w A c bs) : Sl w (fun k => k < w.heap.size) A bs.length (byteC bs) := V.ow_sl h.own
/-- The bytes laid so far. -/
def InIs (w0 w : World) (v : Value) (bs : List Nat) : Prop := w.ownsRow w0.heap.size 5 1 v bs.length (bs.map byteV)
theorem InIs.keeps {w0 w w' : World} {v : Value} {bs : List Nat} (h : InIs w0 w v bs) (hk : Keeps (fun _ => False) w w') : InIs w0 w' v bs := own_keeps h hk (fun _ _ h => h)
theorem InIs.form {w0 w : World} {v : Value} {bs : List Nat} (h : InIs w0 w v bs) : ∃ A c, v = .slice A bs.length c ∧ bs.length ≤ c ∧ Sl w (fun k => k < w.heap.size) A bs.length (byteC bs) := by
  unfold InIs at h
  obtain ⟨A, c, rfl, hc, -⟩ := own_form h
  exact ⟨A, c, rfl, hc, V.ow_sl h⟩
theorem col_up (f : Nat → Pt) (n j : Nat) : colUp f n j ++ V.vput (strB (partA f n j)).size ++ V.txt (strB (partA f n j)) = colUp f n (j + 1) := by
  rw [strB_size, txt_strB (partA_byte f n j)]; rfl
theorem col_bad {w w' : World} {f : Nat → Pt} {n : Nat} (h : colV f n = false) (hk : Keeps (fun _ => False) w w') : F.BytesPost w (colL f n).1 (colL f n).2 (.returned (.tuple #[.slice none 0 0, .int .i64 2])) w' := by
  unfold colL
  rw [h]
  exact ⟨none, 0, rfl, ⟨rfl, .inl ⟨rfl, rfl⟩⟩, hk⟩
theorem col_good {w w1 w' : World} {f : Nat → Pt} {n : Nat} {e : Ending} (h : colV f n = true) (hk : Keeps (fun _ => False) w w1) (hp : F.BytesPost w1 (F.sealL 3 (colUp f n 3)) 0 e w') : F.BytesPost w (colL f n).1 (colL f n).2 e w' := by
  unfold colL
  rw [h]
  obtain ⟨A, c, h1, h2, h3⟩ := hp
  exact ⟨A, c, h1, own_base h2 hk.size, hk.trans' h3⟩
end Go.Proofs.YtboecnakndpgfaaDoor
namespace Go.Proofs.YtboecnakndpgfaaDoor
open Go.RowKit
set_option linter.unusedVariables false
set_option linter.unusedSimpArgs false
theorem W3.start {e : Fin 3 → TypeId} {w0 w : World} {x y : Nat} {v z : Fin 3 → Value} {l : Fin 3 → List Value} (h : R3 e w0 w x v l) (hy : y = w.heap.size) (t : TypeId) (cs : Array Value) :
    W3 e w0 x v z l y (some (.cells cs t (0, 0))) (fun _ => .z) (w.alloc (.cells cs t)) := by
  subst hy
  exact ⟨h.alloc _, fun c q hq => (by cases hq), Blk.fresh _ _ _, fun d g hg => (by have := (h.lt d hg).2; omega), by simp⟩
theorem W3.drew {e : Fin 3 → TypeId} {w0 w : World} {x y : Nat} {v z : Fin 3 → Value} {l : Fin 3 → List Value} {Y : Option Obj} {s : Fin 3 → Sg} (h : W3 e w0 x v z l y Y s w) : W3 e w0 x v z l y Y s w.drew :=
  ⟨h.r.drew, h.cel, h.yk, h.yn, h.yl⟩
def eTb (c : Fin 3) : Nat := match c with | 0 => 30 | 1 => 36 | 2 => 41
def eTr (c : Fin 3) : Nat := match c with | 0 => 31 | 1 => 37 | 2 => 42
def eTm (c : Fin 3) : Nat := match c with | 0 => 27 | 1 => 32 | 2 => 38
def eTv (c : Fin 3) : Nat := match c with | 0 => 29 | 1 => 35 | 2 => 40
def eJb (c : Fin 3) : Nat := match c with | 0 => 3 | 1 => 9 | 2 => 14
def eJa (c : Fin 3) : Nat := match c with | 0 => 4 | 1 => 10 | 2 => 15
def eLst (s : Fin 3 → Sg) : Array Bool := #[true, true, true, (s 0).b1, (s 0).b2, true, true, true, true, (s 1).b1, (s 1).b2, true, true, true, (s 2).b1, (s 2).b2, false, false, false]
theorem eSix : Six eTb eTr := by unfold Six; decide
theorem eLb (s : Fin 3 → Sg) (c : Fin 3) (q : Nat) (hs : s c = .z) : (eLst s).setIfInBounds (eJb c) true = eLst (upd s c (.b q)) := by
  unfold eLst
  match c, hs with
  | 0, hs => rw [upd_same, upd_ne _ _ (by decide), upd_ne _ _ (by decide), hs]; rfl
  | 1, hs => rw [upd_same, upd_ne _ _ (by decide), upd_ne _ _ (by decide), hs]; rfl
  | 2, hs => rw [upd_same, upd_ne _ _ (by decide), upd_ne _ _ (by decide), hs]; rfl
theorem eLr (s : Fin 3 → Sg) (c : Fin 3) (q : Nat) (v' : Value) (hs : s c = .b q) : (eLst s).setIfInBounds (eJa c) true = eLst (upd s c (.r q v')) := by
  unfold eLst
  match c, hs with
  | 0, hs => rw [upd_same, upd_ne _ _ (by decide), upd_ne _ _ (by decide), hs]; rfl
  | 1, hs => rw [upd_same, upd_ne _ _ (by decide), upd_ne _ _ (by decide), hs]; rfl
  | 2, hs => rw [upd_same, upd_ne _ _ (by decide), upd_ne _ _ (by decide), hs]; rfl
theorem left0 {s : Fin 3 → Sg} (h : left3 s = 0) (c : Fin 3) : ∃ q v, s c = .r q v := by
  unfold left3 at h
  have : (s c).left = 0 := by match c with | 0 => omega | 1 => omega | 2 => omega
  cases hs : s c with
  | z => rw [hs] at this; cases this
  | b q => rw [hs] at this; cases this
  | r q v => exact ⟨q, v, rfl⟩
def zOf (p : Pt) (c : Fin 3) : Value := match c with | 0 => .int .i64 p.t | 1 => .int .u64 (IntKind.u64.wrap p.v) | 2 => .int .i64 p.s
theorem zOf_is (f : Nat → Pt) (k : Nat) : zOf (f k) = fun c => colC f c k := by funext c; match c with | 0 => rfl | 1 => rfl | 2 => rfl
theorem W3.last {w0 w : World} {x y k : Nat} {v : Fin 3 → Value} {f : Nat → Pt} {p : Pt} {Y : Option Obj} {s : Fin 3 → Sg} (h : W3 cE w0 x v (zOf p) (colRow f k) y Y s w) (hp : f k = p) (hl : left3 s = 0) :
    R3 cE w0 w x (fun c => (s c).row (v c)) (colRow f (k + 1)) := by
  have hr := h.r
  have e : (fun c => (s c).lst (colRow f k c) (zOf p c)) = colRow f (k + 1) := by
    funext c
    obtain ⟨q, u, hs⟩ := left0 hl c
    rw [hs, colRow_succ, ← hp, zOf_is]; rfl
  rw [e] at hr
  exact hr
set_option maxRecDepth 100000 in
theorem index3 (A0 A1 A2 : Option Addr) (n0 n1 n2 c0 c1 c2 : Nat) (w : World) :
    (Instr.index 42 (.agg #[.slice A0 n0 c0, .slice A1 n1 c1, .slice A2 n2 c2]) (.int .i64 0)).run Tryd.prog w = .ok (.slice A0 n0 c0) w ∧
    (Instr.index 42 (.agg #[.slice A0 n0 c0, .slice A1 n1 c1, .slice A2 n2 c2]) (.int .i64 1)).run Tryd.prog w = .ok (.slice A1 n1 c1) w ∧
    (Instr.index 42 (.agg #[.slice A0 n0 c0, .slice A1 n1 c1, .slice A2 n2 c2]) (.int .i64 2)).run Tryd.prog w = .ok (.slice A2 n2 c2) w := by
  refine ⟨?_, rfl, rfl⟩
  unfold Instr.index
  simp [run_underlying Tryd.underlying42, asIntOf, go_sem]
set_option maxRecDepth 100000 in
set_option maxHeartbeats 8000000 in
theorem cencode_any (A : Option Addr) (n c : Nat) (f : Nat → Pt) (D0 : Nat → Prop) (w : World) (hsl : SlP w D0 A n f) (hn : n ≤ 9223372036854775807) :
    Calls Tryd.prog 13 #[.slice A n c] w (F.BytesPost w (colL f n).1 (colL f n).2) := by
  have HO := Lib.hid hsl
  clear hsl
  go_enter Tryd.func13, Tryd.ntmps13
  go_wp2_with fail
  refine (cvalid_any _ _ _ f D0 _ HO.out hn).mono ?_
  rintro e w1 ⟨rfl, hb1⟩
  cases hv : colV f n with
  | false =>
    have HF := Lib.hid (And.intro hv (Keeps.of_below (S := fun _ => False) hb1))
    clear hv hb1
    go_wp2_with fail
    go_ret2
    exact col_bad HF.out.1 HF.out.2
  | true =>
    obtain ⟨-, hn0, hn4⟩ := colV_spec hv
    have HV := Lib.hid hv
    have HS := Lib.hid (R3.start cE (Keeps.of_below (S := fun _ => False) hb1))
    clear hv hb1
    go_wp2_with fail
    go_loopw [4, 5, 6, 23] (fun v4 v5 v6 i wr => ∃ (k : Nat) (v : Fin 3 → Value), k ≤ n ∧ i = .int .i64 k ∧ v4 = v 0 ∧ v5 = v 2 ∧ v6 = v 1 ∧ R3 cE w wr w1.heap.size v (colRow f k)) (fun _ _ _ i _ => n - (intOf i).toNat)
    case atStart => exact ⟨0, _, Nat.zero_le _, rfl, rfl, rfl, rfl, HS.out⟩
    case round =>
      obtain ⟨k, v, hk, rfl, rfl, rfl, rfl, hR⟩ := hrel
      by_cases hlt : k < n
      · obtain ⟨b, off, rfl, -, hc⟩ := (HO.out.keeps hR.keep) (by omega)
        obtain ⟨k0, k1, k2⟩ := hc k hlt
        clear hc
        generalize hp : f k = p at k0 k1 k2
        obtain ⟨y, hy⟩ : ∃ y, y = wr.heap.size := ⟨_, rfl⟩
        have HY := Lib.hid (And.intro hy (And.intro hp (W3.start (z := zOf p) hR hy 34 #[.int .i64 p.t, .int .i64 p.v, .int .i64 p.s])))
        clear hy hp hR
        go_upto_region 8 with (fail)
        rw [← HY.out.1]
        have hS := HY.out.2.2
        have HP := Lib.hid HY.out.2.1
        clear k0 k1 k2 HY
        refine wp_gen (W3 cE w w1.heap.size v (zOf p) (colRow f k) y (some (.cells #[.int .i64 p.t, .int .i64 p.v, .int .i64 p.s] 34 (0, 0))) (fun _ => .z)) hS ?_
        clear hS
        intro w2 hS0
        have HW := Lib.hid hS0.drew
        clear hS0
        have hS : (fun w' => Blk w' y 34 #[.int .i64 p.t, .int .i64 p.v, .int .i64 p.s]) (w2.drew) := HW.out.yk
        refine reg_start (fun w' => Blk w' y 34 #[.int .i64 p.t, .int .i64 p.v, .int .i64 p.s]) (by kernel_rfl) hS ?_
        refine reg_take (i := 0) (v := ?_) rfl (by kernel_rfl) (by kernel_rfl) (by kernel_rfl) (fun _ _ _ h => h) (Or.inl ⟨by kernel_rfl, ?_⟩) hS ?_
        rotate_left
        · (intro w' hSw; have z0 := hSw.cell 0; have z1 := hSw.cell 1; have z2 := hSw.cell 2; simp only [List.getElem?_toArray, List.getElem?_cons_zero, List.getElem?_cons_succ] at z0 z1 z2; go_simp <;> with_reducible rfl)
        try simp only [List.getElem_toArray, List.getElem_cons_succ, List.getElem_cons_zero, Act.put, List.setIfInBounds_toArray, List.set_cons_zero, List.set_cons_succ]
        refine reg_take (i := 1) (v := ?_) rfl (by kernel_rfl) (by kernel_rfl) (by kernel_rfl) (fun _ _ _ h => h) (Or.inl ⟨by kernel_rfl, ?_⟩) hS ?_
        rotate_left
        · (intro w' hSw; have z0 := hSw.cell 0; have z1 := hSw.cell 1; have z2 := hSw.cell 2; simp only [List.getElem?_toArray, List.getElem?_cons_zero, List.getElem?_cons_succ] at z0 z1 z2; go_simp <;> with_reducible rfl)
        try simp only [List.getElem_toArray, List.getElem_cons_succ, List.getElem_cons_zero, Act.put, List.setIfInBounds_toArray, List.set_cons_zero, List.set_cons_succ]
        refine reg_take (i := 2) (v := ?_) rfl (by kernel_rfl) (by kernel_rfl) (by kernel_rfl) (fun _ _ _ h => h) (Or.inl ⟨by kernel_rfl, ?_⟩) hS ?_
        rotate_left
        · (intro w' hSw; have z0 := hSw.cell 0; have z1 := hSw.cell 1; have z2 := hSw.cell 2; simp only [List.getElem?_toArray, List.getElem?_cons_zero, List.getElem?_cons_succ] at z0 z1 z2; go_simp <;> with_reducible rfl)
        try simp only [List.getElem_toArray, List.getElem_cons_succ, List.getElem_cons_zero, Act.put, List.setIfInBounds_toArray, List.set_cons_zero, List.set_cons_succ]
        refine reg_take (i := 5) (v := ?_) rfl (by kernel_rfl) (by kernel_rfl) (by kernel_rfl) (fun _ _ _ h => h) (Or.inl ⟨by kernel_rfl, ?_⟩) hS ?_
        rotate_left
        · (intro w' hSw; have z0 := hSw.cell 0; have z1 := hSw.cell 1; have z2 := hSw.cell 2; simp only [List.getElem?_toArray, List.getElem?_cons_zero, List.getElem?_cons_succ] at z0 z1 z2; go_simp <;> with_reducible rfl)
        try simp only [List.getElem_toArray, List.getElem_cons_succ, List.getElem_cons_zero, Act.put, List.setIfInBounds_toArray, List.set_cons_zero, List.set_cons_succ]
        refine reg_take (i := 6) (v := ?_) rfl (by kernel_rfl) (by kernel_rfl) (by kernel_rfl) (fun _ _ _ h => h) (Or.inl ⟨by kernel_rfl, ?_⟩) hS ?_
        rotate_left
        · (intro w' hSw; have z0 := hSw.cell 0; have z1 := hSw.cell 1; have z2 := hSw.cell 2; simp only [List.getElem?_toArray, List.getElem?_cons_zero, List.getElem?_cons_succ] at z0 z1 z2; go_simp <;> with_reducible rfl)
        try simp only [List.getElem_toArray, List.getElem_cons_succ, List.getElem_cons_zero, Act.put, List.setIfInBounds_toArray, List.set_cons_zero, List.set_cons_succ]
        refine reg_take (i := 7) (v := ?_) rfl (by kernel_rfl) (by kernel_rfl) (by kernel_rfl) (fun _ _ _ h => h) (Or.inl ⟨by kernel_rfl, ?_⟩) hS ?_
        rotate_left
        · (intro w' hSw; have z0 := hSw.cell 0; have z1 := hSw.cell 1; have z2 := hSw.cell 2; simp only [List.getElem?_toArray, List.getElem?_cons_zero, List.getElem?_cons_succ] at z0 z1 z2; go_simp <;> with_reducible rfl)
        try simp only [List.getElem_toArray, List.getElem_cons_succ, List.getElem_cons_zero, Act.put, List.setIfInBounds_toArray, List.set_cons_zero, List.set_cons_succ]
        refine reg_take (i := 8) (v := ?_) rfl (by kernel_rfl) (by kernel_rfl) (by kernel_rfl) (fun _ _ _ h => h) (Or.inl ⟨by kernel_rfl, ?_⟩) hS ?_
        rotate_left
        · (intro w' hSw; have z0 := hSw.cell 0; have z1 := hSw.cell 1; have z2 := hSw.cell 2; simp only [List.getElem?_toArray, List.getElem?_cons_zero, List.getElem?_cons_succ] at z0 z1 z2; go_simp <;> with_reducible rfl)
        try simp only [List.getElem_toArray, List.getElem_cons_succ, List.getElem_cons_zero, Act.put, List.setIfInBounds_toArray, List.set_cons_zero, List.set_cons_succ]
        refine reg_take (i := 11) (v := ?_) rfl (by kernel_rfl) (by kernel_rfl) (by kernel_rfl) (fun _ _ _ h => h) (Or.inl ⟨by kernel_rfl, ?_⟩) hS ?_
        rotate_left
        · (intro w' hSw; have z0 := hSw.cell 0; have z1 := hSw.cell 1; have z2 := hSw.cell 2; simp only [List.getElem?_toArray, List.getElem?_cons_zero, List.getElem?_cons_succ] at z0 z1 z2; go_simp <;> with_reducible rfl)
        try simp only [List.getElem_toArray, List.getElem_cons_succ, List.getElem_cons_zero, Act.put, List.setIfInBounds_toArray, List.set_cons_zero, List.set_cons_succ]
        refine reg_take (i := 12) (v := ?_) rfl (by kernel_rfl) (by kernel_rfl) (by kernel_rfl) (fun _ _ _ h => h) (Or.inl ⟨by kernel_rfl, ?_⟩) hS ?_
        rotate_left
        · (intro w' hSw; have z0 := hSw.cell 0; have z1 := hSw.cell 1; have z2 := hSw.cell 2; simp only [List.getElem?_toArray, List.getElem?_cons_zero, List.getElem?_cons_succ] at z0 z1 z2; go_simp <;> with_reducible rfl)
        try simp only [List.getElem_toArray, List.getElem_cons_succ, List.getElem_cons_zero, Act.put, List.setIfInBounds_toArray, List.set_cons_zero, List.set_cons_succ]
        refine reg_take (i := 13) (v := ?_) rfl (by kernel_rfl) (by kernel_rfl) (by kernel_rfl) (fun _ _ _ h => h) (Or.inl ⟨by kernel_rfl, ?_⟩) hS ?_
        rotate_left
        · (intro w' hSw; have z0 := hSw.cell 0; have z1 := hSw.cell 1; have z2 := hSw.cell 2; simp only [List.getElem?_toArray, List.getElem?_cons_zero, List.getElem?_cons_succ] at z0 z1 z2; go_simp <;> with_reducible rfl)
        try simp only [List.getElem_toArray, List.getElem_cons_succ, List.getElem_cons_zero, Act.put, List.setIfInBounds_toArray, List.set_cons_zero, List.set_cons_succ]
        refine run3 (tb := eTb) (tr := eTr) (jb := eJb) (ja := eJa) (tm := eTm) (tv := eTv) (t := cT) (e := cE) (zz := cZ) (by_ := fun _ => 8) (lst := eLst) (v := v) (z := zOf p) (l := colRow f k) (y := y) ?hR _ ?hsz ?hm ?hv ?h1 ?hl ?hSS 3 ?hend 6 (fun _ => .z) _ rfl ⟨(fun h => by cases h), (fun h => by cases h)⟩ HW.out
        case hR =>
          refine ⟨eSix, cElem, fun c => ?_, fun c => ?_, by unfold eTm eTv eTb eTr; decide, eLb, eLr, fun s hok hs => ?_⟩
          · match c with
            | 0 => exact ⟨_, rfl, rfl, rfl, rfl⟩
            | 1 => exact ⟨_, rfl, rfl, rfl, rfl⟩
            | 2 => exact ⟨_, rfl, rfl, rfl, rfl⟩
          · match c with
            | 0 => exact ⟨_, rfl, rfl, rfl, rfl⟩
            | 1 => exact ⟨_, rfl, rfl, rfl, rfl⟩
            | 2 => exact ⟨_, rfl, rfl, rfl, rfl⟩
          · unfold left3 at hs
            unfold eLst cnx
            unfold okc at hok
            generalize s 0 = a0 at hs hok ⊢
            generalize s 1 = a1 at hs hok ⊢
            generalize s 2 = a2 at hs hok ⊢
            cases a0 <;> cases a1 <;> cases a2 <;> first | (exfalso; simp [Sg.left] at hs; done) | (exfalso; simp [Sg.b2] at hok; done) | (clear hs hok; simp only [Sg.b1, Sg.b2, Sg.nxc, eJb, eJa, List.cons_append, List.nil_append, if_true, Bool.false_eq_true, if_false]; kernel_rfl)
        case hsz => intro c; match c with | 0 => exact (show (30 : Nat) < 79 by decide) | 1 => exact (show (36 : Nat) < 79 by decide) | 2 => exact (show (41 : Nat) < 79 by decide)
        case hm => intro c; match c with | 0 => rfl | 1 => rfl | 2 => rfl
        case hv => intro c; match c with | 0 => rfl | 1 => rfl | 2 => rfl
        case h1 => intro c; match c with | 0 => rfl | 1 => rfl | 2 => rfl
        case hl => intro c; rw [colRow_len]; unfold maxLen; omega
        case hSS => exact fun s w hW => hW.yk
        case hend =>
          clear HW hS
          intro s w3 hl0 hW
          have hS : (fun w' => Blk w' y 34 #[.int .i64 p.t, .int .i64 p.v, .int .i64 p.s]) w3 := hW.yk
          have hl := hW.last HP.out hl0
          obtain ⟨q0, u0, h0⟩ := left0 hl0 0
          obtain ⟨q1, u1, h1⟩ := left0 hl0 1
          obtain ⟨q2, u2, h2⟩ := left0 hl0 2
          have e0 : u0 = (fun c => (s c).row (v c)) 0 := by simp only [h0]; rfl
          have e1 : u1 = (fun c => (s c).row (v c)) 1 := by simp only [h1]; rfl
          have e2 : u2 = (fun c => (s c).row (v c)) 2 := by simp only [h2]; rfl
          generalize (fun c => (s c).row (v c)) = v' at hl e0 e1 e2
          have HL := Lib.hid hl
          clear hl hW hl0
          unfold act3 eLst
          rw [h0, h1, h2, puts_r, puts_r, puts_r, e0, e1, e2]
          clear h0 h1 h2 e0 e1 e2
          simp only [Sg.b1, Sg.b2, eTb, eTr, Act.put, List.setIfInBounds_toArray, List.set_cons_zero, List.set_cons_succ]
          refine reg_take (i := 16) (v := ?_) rfl (by kernel_rfl) (by kernel_rfl) (by kernel_rfl) (fun _ _ _ h => h) (Or.inl ⟨by kernel_rfl, ?_⟩) hS ?_
          rotate_left
          · (intro w' hSw; go_simp <;> with_reducible rfl)
          try simp only [List.getElem_toArray, List.getElem_cons_succ, List.getElem_cons_zero, Act.put, List.setIfInBounds_toArray, List.set_cons_zero, List.set_cons_succ]
          refine reg_take (i := 17) (v := ?_) rfl (by kernel_rfl) (by kernel_rfl) (by kernel_rfl) (fun _ _ _ h => h) (Or.inl ⟨by kernel_rfl, ?_⟩) hS ?_
          rotate_left
          · (intro w' hSw; go_simp <;> with_reducible rfl)
          try simp only [List.getElem_toArray, List.getElem_cons_succ, List.getElem_cons_zero, Act.put, List.setIfInBounds_toArray, List.set_cons_zero, List.set_cons_succ]
          refine reg_take (i := 18) (v := ?_) rfl (by kernel_rfl) (by kernel_rfl) (by kernel_rfl) (fun _ _ _ h => h) (Or.inl ⟨by kernel_rfl, ?_⟩) hS ?_
          rotate_left
          · (intro w' hSw; go_simp <;> with_reducible rfl)
          try simp only [List.getElem_toArray, List.getElem_cons_succ, List.getElem_cons_zero, Act.put, List.setIfInBounds_toArray, List.set_cons_zero, List.set_cons_succ]
          refine wpAnyH_done (by kernel_rfl) ?_ _
          try simp only [List.getElem_toArray, List.getElem_cons_succ, List.getElem_cons_zero]
          try simp only [List.getElem_toArray, List.getElem_cons_succ, List.getElem_cons_zero, Act.put, List.setIfInBounds_toArray, List.set_cons_zero, List.set_cons_succ]
          clear hS
          go_wp2_with fail
          go_roundw
          case rel => exact ⟨k + 1, v', by omega, by go_num, rfl, rfl, rfl, HL.out⟩
          case measure => simp [intOf]; omega
      · obtain rfl : k = n := by omega
        obtain ⟨A0, c0, ev0, hc0, hs0⟩ := r3_sl hR 0
        obtain ⟨A1, c1, ev1, hc1, hs1⟩ := r3_sl hR 1
        obtain ⟨A2, c2, ev2, hc2, hs2⟩ := r3_sl hR 2
        rw [ev0, ev1, ev2]
        have HK := Lib.hid hR.keep
        have H1 := Lib.hid (hs1 _ (fun j hj => col_v hj))
        have H2 := Lib.hid (hs2 _ (fun j hj => col_s hj))
        have H0 := Lib.hid (hs0 _ (fun j hj => col_t hj))
        clear hs0 hs1 hs2 ev0 ev1 ev2 hR HS
        go_wp2_with fail
        refine (D.encode_any _ _ _ _ _ (tOf f k) H0.out (tOf_range HV.out) hn4).mono ?_
        rintro e w2 ⟨B0, d0, rfl, hr0, hk0⟩
        have P0 := Lib.hid (show PartIs wr w2 B0 d0 (partA f k 0) from ⟨hr0⟩)
        have H1 := Lib.hid (H1.out.keeps hk0 (fun _ _ h => h))
        have H2 := Lib.hid (H2.out.keeps hk0 (fun _ _ h => h))
        have HK := Lib.hid (HK.out.trans' hk0)
        rw [show (pack (D.encTo (tOf f k) k)) = partA f k 0 from rfl]
        clear hr0 hk0 H0
        go_wp2_with fail
        refine (X.xencode_any _ _ _ _ _ (vOf f k) H1.out (vOf_lt f k) hn4).mono ?_
        rintro e w3 ⟨B1, d1, rfl, hr1, hk1⟩
        have P0 := Lib.hid (P0.out.keeps hk1)
        have P1 := Lib.hid (show PartIs w2 w3 B1 d1 (partA f k 1) from ⟨hr1⟩)
        have H2 := Lib.hid (H2.out.keeps hk1 (fun _ _ h => h))
        have HK := Lib.hid (HK.out.trans' hk1)
        rw [show (pack (X.xencTo (vOf f k) k)) = partA f k 1 from rfl]
        clear hr1 hk1 H1
        go_wp2_with fail
        refine (D.encode_any _ _ _ _ _ (sOf f k) H2.out (sOf_range HV.out) hn4).mono ?_
        rintro e w4 ⟨B2, d2, rfl, hr2, hk2⟩
        have P0 := Lib.hid (P0.out.keeps hk2)
        have P1 := Lib.hid (P1.out.keeps hk2)
        have P2 := Lib.hid (show PartIs w3 w4 B2 d2 (partA f k 2) from ⟨hr2⟩)
        have HK := Lib.hid (HK.out.trans' hk2)
        rw [show (pack (D.encTo (sOf f k) k)) = partA f k 2 from rfl]
        clear hr2 hk2 H2
        go_wp2_with fail
        refine (V.vput_any _ none 0 0 [] _ rfl (Sl.nil _ _ _ _) (by omega) (by omega) ?_ ?_).mono ?_
        · first | omega | (rw [IntKind.wrap_u64]; omega)
        · first | omega | (rw [IntKind.wrap_u64]; omega)
        rintro e w5 ⟨v5, rfl, hi5, hb5⟩
        have hk5 := Keeps.of_below (S := fun _ => False) hb5
        have hi5' : InIs w4 w5 v5 (colUp f k 0) := by
          have e : ([] ++ V.vput ((k : Int)).toNat) = colUp f k 0 := by simp; rfl
          unfold InIs
          first | (rw [← e]; exact hi5) | (rw [IntKind.wrap_u64] at hi5; rw [← e]; have e2 : ((k : Int) % 18446744073709551616).toNat = ((k : Int)).toNat := by omega
                                           rw [e2] at hi5; exact hi5)
        have P0 := Lib.hid (P0.out.keeps hk5)
        have P1 := Lib.hid (P1.out.keeps hk5)
        have P2 := Lib.hid (P2.out.keeps hk5)
        have HK := Lib.hid (HK.out.trans' hk5)
        have HI := Lib.hid hi5'
        have HZ := Lib.hid hk5.size
        clear hi5 hi5' hb5 hk5
        have l0 : (partA f k 0).length ≤ 40000 := partA_len f k 0 hn4
        have l1 : (partA f k 1).length ≤ 40000 := partA_len f k 1 hn4
        have l2 : (partA f k 2).length ≤ 40000 := partA_len f k 2 hn4
        have HL := Lib.hid (And.intro l0 (And.intro l1 l2))
        clear l0 l1 l2
        go_wp2_with fail
        go_loopw [15, 67] (fun v15 i wr => ∃ j : Nat, j ≤ 3 ∧ i = .int .i64 j ∧ InIs w4 wr v15 (colUp f k j) ∧ Keeps (fun _ => False) w5 wr) (fun _ i _ => 3 - (intOf i).toNat)
        case atStart => exact ⟨0, Nat.zero_le _, rfl, HI.out, Keeps.refl _ _⟩
        case round =>
          obtain ⟨j, hj, rfl, hI, hkk⟩ := hrel
          obtain ⟨A5, c5, rfl, hc5, hs5⟩ := hI.form
          have hl5 := colUp_len f k hn4 j
          have HI := Lib.hid (And.intro hs5 (And.intro hkk hl5))
          clear hI hs5 hkk hl5
          have h4 : j = 0 ∨ j = 1 ∨ j = 2 ∨ j = 3 := by omega
          rcases h4 with rfl | rfl | rfl | rfl
          ·
            rw [show ((0 : Nat) : Int) = 0 from rfl]
            have hcv := conv_sl (P := Tryd.prog) (c := d0) 22 5 9 Tryd.underlying22 Tryd.underlying5 Tryd.underlying9 (bs := partA f k 0) rfl (P0.out.keeps HI.out.2.1).sl
            obtain ⟨i0, i1, i2⟩ := index3 B0 B1 B2 (partA f k 0).length (partA f k 1).length (partA f k 2).length d0 d1 d2 wr
            go_wp2_with fail
            clear hcv i0 i1 i2
            refine (V.putText_any _ _ _ _ (colUp f k 0) _ rfl HI.out.1 hc5 ?_ ?_).mono ?_
            · have := HI.out.2.2; omega
            · rw [strB_size]; have := HL.out; omega
            rintro e w6 ⟨v6, rfl, hi6, hb6⟩
            have hk6 := Keeps.of_below (S := fun _ => False) hb6
            rw [col_up f k 0] at hi6
            have HJ := Lib.hid (And.intro (show InIs w4 w6 v6 (colUp f k (0 + 1)) from own_base hi6 (Nat.le_trans (by have := HI.out.2.1.size; have := HZ.out; omega) (Nat.le_refl _))) (HI.out.2.1.trans' hk6))
            clear hi6 hb6 hk6
            go_wp2_with fail
            go_roundw
            case rel => exact ⟨0 + 1, by omega, by go_num, HJ.out.1, HJ.out.2⟩
            case measure => simp [intOf]
          ·
            rw [show ((1 : Nat) : Int) = 1 from rfl]
            have hcv := conv_sl (P := Tryd.prog) (c := d1) 22 5 9 Tryd.underlying22 Tryd.underlying5 Tryd.underlying9 (bs := partA f k 1) rfl (P1.out.keeps HI.out.2.1).sl
            obtain ⟨i0, i1, i2⟩ := index3 B0 B1 B2 (partA f k 0).length (partA f k 1).length (partA f k 2).length d0 d1 d2 wr
            go_wp2_with fail
            clear hcv i0 i1 i2
            refine (V.putText_any _ _ _ _ (colUp f k 1) _ rfl HI.out.1 hc5 ?_ ?_).mono ?_
            · have := HI.out.2.2; omega
            · rw [strB_size]; have := HL.out; omega
            rintro e w6 ⟨v6, rfl, hi6, hb6⟩
            have hk6 := Keeps.of_below (S := fun _ => False) hb6
            rw [col_up f k 1] at hi6
            have HJ := Lib.hid (And.intro (show InIs w4 w6 v6 (colUp f k (1 + 1)) from own_base hi6 (Nat.le_trans (by have := HI.out.2.1.size; have := HZ.out; omega) (Nat.le_refl _))) (HI.out.2.1.trans' hk6))
            clear hi6 hb6 hk6
            go_wp2_with fail
            go_roundw
            case rel => exact ⟨1 + 1, by omega, by go_num, HJ.out.1, HJ.out.2⟩
            case measure => simp [intOf]
          ·
            rw [show ((2 : Nat) : Int) = 2 from rfl]
            have hcv := conv_sl (P := Tryd.prog) (c := d2) 22 5 9 Tryd.underlying22 Tryd.underlying5 Tryd.underlying9 (bs := partA f k 2) rfl (P2.out.keeps HI.out.2.1).sl
            obtain ⟨i0, i1, i2⟩ := index3 B0 B1 B2 (partA f k 0).length (partA f k 1).length (partA f k 2).length d0 d1 d2 wr
            go_wp2_with fail
            clear hcv i0 i1 i2
            refine (V.putText_any _ _ _ _ (colUp f k 2) _ rfl HI.out.1 hc5 ?_ ?_).mono ?_
            · have := HI.out.2.2; omega
            · rw [strB_size]; have := HL.out; omega
            rintro e w6 ⟨v6, rfl, hi6, hb6⟩
            have hk6 := Keeps.of_below (S := fun _ => False) hb6
            rw [col_up f k 2] at hi6
            have HJ := Lib.hid (And.intro (show InIs w4 w6 v6 (colUp f k (2 + 1)) from own_base hi6 (Nat.le_trans (by have := HI.out.2.1.size; have := HZ.out; omega) (Nat.le_refl _))) (HI.out.2.1.trans' hk6))
            clear hi6 hb6 hk6
            go_wp2_with fail
            go_roundw
            case rel => exact ⟨2 + 1, by omega, by go_num, HJ.out.1, HJ.out.2⟩
            case measure => simp [intOf]
          · rw [show ((3 : Nat) : Int) = 3 from rfl]
            go_wp2_with fail
            refine (F.seal_ok _ 3 _ _ _ _ (colUp f k 3) rfl HI.out.1 (colUp_byte f k 3) (by omega) (by have := HI.out.2.2; omega)).mono ?_
            intro e w6 hp
            obtain ⟨A6, c6, rfl, ho6, hk6⟩ := hp
            have HP := Lib.hid (And.intro ho6 hk6)
            clear ho6 hk6
            go_wp2_with fail
            go_ret2
            exact col_good HV.out (HK.out.trans' HI.out.2.1) ⟨A6, c6, rfl, HP.out.1, HP.out.2⟩
end Go.Proofs.YtboecnakndpgfaaDoor
namespace Go.Proofs.YtboecnakndpgfaaDoor
open Go.RowKit
set_option linter.unusedVariables false
set_option linter.unusedSimpArgs false
theorem wpList_app3 {ops : Array Oper} {rest : List Oper} {o : Oper} {a : Act} {Q : Exit → Act → World → Prop} {w0 w : World} {x : Nat} {v : Fin 3 → Value} {l : Fin 3 → List Value} {u : Value} (h : R3 cE w0 w x v l) (c : Fin 3) (hgd : o.guard = none) (s xo : Operand)
    (ho : o.op = .call { callee := .builtin .append, args := #[s, xo], argTypes := #[cT c, cT c] }) (hs : a.eval s = v c) (hx : a.eval xo = .slice (some ⟨w.heap.size, 0, none⟩) 1 1) (hu : u.oneCell' = true) (hl : (l c).length + 1 ≤ 4097)
    (k : ∀ v' w', R3 cE w0 w' x (upd v c v') (upd l c (l c ++ [u])) → wpList Tryd.prog ops Q rest (a.put o.dst v') w') : wpList Tryd.prog ops Q (o :: rest) a (w.alloc (.cells #[u] (cE c))) := by
  refine wpList_append_sl (A := some ⟨w.heap.size, 0, none⟩) (c := 1) (m := 1) (f := fun _ => u) (D := fun k => k = w.heap.size) (base := x) (n := (l c).length) (xs := l c) (cElem c) hgd s xo ho hs hx ((h.own c).alloc _) (sl_one _ _ _) (fun _ _ => hu) (by unfold maxLen; omega) (by omega) (by have := h.size; simp; omega) ?_
  intro v' w' h2 h3 h4
  exact k v' w' ((h.alloc _).grow c h2 h3 h4)
theorem col3 {w0 w : World} {x k : Nat} {V : Fin 3 → Value} {f : Nat → Pt} {p : Pt} (hp : f k = p) (h : R3 cE w0 w x V (upd (upd (upd (colRow f k) 0 (colRow f k 0 ++ [.int .i64 p.t])) 1 (colRow f k 1 ++ [.int .u64 (IntKind.u64.wrap p.v)])) 2 (colRow f k 2 ++ [.int .i64 p.s]))) :
    R3 cE w0 w x V (colRow f (k + 1)) := by
  have e : upd (upd (upd (colRow f k) 0 (colRow f k 0 ++ [.int .i64 p.t])) 1 (colRow f k 1 ++ [.int .u64 (IntKind.u64.wrap p.v)])) 2 (colRow f k 2 ++ [.int .i64 p.s]) = colRow f (k + 1) := by
    subst hp
    funext c
    rw [colRow_succ]
    match c with
    | 0 => rfl
    | 1 => rfl
    | 2 => rfl
  rw [e] at h
  exact h
end Go.Proofs.YtboecnakndpgfaaDoor
namespace Go.Proofs.YtboecnakndpgfaaDoor
open Go.RowKit
set_option linter.unusedVariables false
set_option linter.unusedSimpArgs false
theorem vtext_put2 (t ms : List Nat) (most : Int) (ht : (t.length : Int) ≤ most) (hn : t.length < 18446744073709551616) : V.vtext (V.vput t.length ++ t ++ ms) most = (t, (V.vput t.length).length + t.length, 0) := by
  unfold V.vtext
  rw [List.append_assoc, V.vget_vput t.length (t ++ ms) hn]
  rw [if_neg (by simp), if_neg (by simp; omega), if_neg (by simp)]
  simp
theorem vtext_get {l : List Nat} {most : Int} (hb : ∀ j, l.getD j 0 < 256) (h : (V.vtext l most).2.2 = 0) :
    (V.vtext l most).2.1 ≤ l.length ∧ l.take (V.vtext l most).2.1 = V.vput (V.vtext l most).1.length ++ (V.vtext l most).1 ∧ ((V.vtext l most).1.length : Int) ≤ most := by
  unfold V.vtext at h ⊢
  by_cases h1 : (V.vget l).2.2 = 0
  · rw [if_neg (by simp [h1])] at h ⊢
    obtain ⟨g1, g2, g3⟩ := V.vget_put hb h1
    by_cases h2 : most < 0 ∨ most < (V.vget l).1
    · rw [if_pos h2] at h; cases h
    · rw [if_neg h2] at h ⊢
      by_cases h3 : l.length - (V.vget l).2.1 < (V.vget l).1
      · rw [if_pos h3] at h; cases h
      · rw [if_neg h3]
        have hl : ((l.drop (V.vget l).2.1).take (V.vget l).1).length = (V.vget l).1 := by rw [List.length_take, List.length_drop]; omega
        refine ⟨by show (V.vget l).2.1 + (V.vget l).1 ≤ _; omega, ?_, by show ((((l.drop (V.vget l).2.1).take (V.vget l).1).length : Nat) : Int) ≤ most; rw [hl]; omega⟩
        show l.take ((V.vget l).2.1 + (V.vget l).1) = V.vput ((l.drop (V.vget l).2.1).take (V.vget l).1).length ++ _
        rw [hl, g3, List.take_add]
  · rw [if_pos (by simpa using h1)] at h; exact absurd h h1
/-- Where part j begins; part j; what is wrong with it. -/
def cAt (I : List Nat) : Nat → Nat
  | 0 => (V.vget I).2.1
  | j + 1 => cAt I j + (V.vtext (I.drop (cAt I j)) 1048576).2.1
def cPt (I : List Nat) (j : Nat) : List Nat := (V.vtext (I.drop (cAt I j)) 1048576).1
def cEr (I : List Nat) (j : Nat) : Nat := (V.vtext (I.drop (cAt I j)) 1048576).2.2
structure Parts (b : List Nat) : Prop where
  e : F.openE b = 0
  k : F.openK b = 3
  v : (V.vget (F.openI b)).2.2 = 0
  m : (V.vget (F.openI b)).1 ≤ 4096
  t : ∀ j, j < 3 → cEr (F.openI b) j = 0
  z : cAt (F.openI b) 3 = (F.openI b).length
def upL (n : Nat) (p : Nat → List Nat) : Nat → List Nat
  | 0 => V.vput n
  | j + 1 => upL n p j ++ V.vput (p j).length ++ p j
theorem colUp_upL (f : Nat → Pt) (n : Nat) : ∀ j, colUp f n j = upL n (partA f n) j
  | 0 => rfl
  | j + 1 => by show colUp f n j ++ _ ++ _ = upL n (partA f n) j ++ _ ++ _; rw [colUp_upL f n j]
theorem upL_congr {n : Nat} {p q : Nat → List Nat} : ∀ j, (∀ i, i < j → p i = q i) → upL n p j = upL n q j
  | 0, _ => rfl
  | j + 1, h => by show upL n p j ++ _ ++ _ = upL n q j ++ _ ++ _; rw [upL_congr j (fun i hi => h i (by omega)), h j (by omega)]
theorem parts_up {I : List Nat} (hb : ∀ j, I.getD j 0 < 256) (hv : (V.vget I).2.2 = 0) : ∀ j, (∀ i, i < j → cEr I i = 0) → I.take (cAt I j) = upL (V.vget I).1 (cPt I) j ∧ cAt I j ≤ I.length
  | 0, _ => by
    obtain ⟨g1, g2, g3⟩ := V.vget_put hb hv
    exact ⟨g3.symm, g2⟩
  | j + 1, h => by
    obtain ⟨i1, i2⟩ := parts_up hb hv j (fun i hi => h i (by omega))
    obtain ⟨g1, g2, g3⟩ := vtext_get (l := I.drop (cAt I j)) (most := 1048576) (V.getD_drop_lt hb _) (h j (by omega))
    rw [List.length_drop] at g1
    refine ⟨?_, by show cAt I j + _ ≤ _; omega⟩
    show I.take (cAt I j + (V.vtext (I.drop (cAt I j)) 1048576).2.1) = upL _ _ j ++ V.vput (cPt I j).length ++ cPt I j
    rw [List.take_add, i1, g2, List.append_assoc]
    rfl
theorem upL_more (n : Nat) (p : Nat → List Nat) : ∀ j k, ∃ r, upL n p (j + k) = upL n p j ++ r
  | j, 0 => ⟨[], by simp⟩
  | j, k + 1 => by
    obtain ⟨r, hr⟩ := upL_more n p j k
    refine ⟨r ++ V.vput (p (j + k)).length ++ p (j + k), ?_⟩
    show upL n p (j + k) ++ _ ++ _ = _
    rw [hr]
    simp only [List.append_assoc]
    rfl
theorem up_parts {n : Nat} {p : Nat → List Nat} (hn : n < 18446744073709551616) (hp : ∀ i, (p i).length ≤ 1048576) : (V.vget (upL n p 3)).1 = n ∧ (V.vget (upL n p 3)).2.2 = 0 ∧ ∀ j, j ≤ 3 → cAt (upL n p 3) j = (upL n p j).length ∧ ∀ i, i < j → cPt (upL n p 3) i = p i ∧ cEr (upL n p 3) i = 0 := by
  obtain ⟨r, hr⟩ := upL_more n p 0 3
  have hg : V.vget (upL n p 3) = (n, (V.vput n).length, 0) := by
    rw [show upL n p 3 = V.vput n ++ r from by rw [show (3 : Nat) = 0 + 3 from rfl, hr]; rfl]
    exact V.vget_vput n r hn
  refine ⟨by rw [hg], by rw [hg], fun j => ?_⟩
  induction j with
  | zero => intro _; exact ⟨by show (V.vget _).2.1 = _; rw [hg]; rfl, fun i hi => by omega⟩
  | succ j ih =>
    intro hj
    obtain ⟨i1, i2⟩ := ih (by omega)
    obtain ⟨r2, hr2⟩ := upL_more n p (j + 1) (3 - (j + 1))
    rw [show j + 1 + (3 - (j + 1)) = 3 by omega] at hr2
    have ht : V.vtext ((upL n p 3).drop (cAt (upL n p 3) j)) 1048576 = (p j, (V.vput (p j).length).length + (p j).length, 0) := by
      rw [i1]
      have e : (upL n p 3).drop (upL n p j).length = V.vput (p j).length ++ p j ++ r2 := by
        rw [hr2]
        show (upL n p j ++ V.vput (p j).length ++ p j ++ r2).drop _ = _
        rw [List.append_assoc, List.append_assoc, List.drop_left]
        simp only [List.append_assoc]
      rw [e]
      have := hp j
      exact vtext_put2 _ _ _ (by omega) (by omega)
    refine ⟨?_, fun i hi => ?_⟩
    · show cAt _ j + (V.vtext _ _).2.1 = (upL n p j ++ V.vput (p j).length ++ p j).length
      rw [ht, i1, List.length_append, List.length_append]
      simp only []
      omega
    · rcases Nat.lt_or_ge i j with h1 | h1
      · exact i2 i h1
      · obtain rfl : i = j := by omega
        unfold cPt cEr
        rw [ht]
        exact ⟨rfl, rfl⟩
/-- The points of three lists. -/
def gP (ts : List Int) (vs : List Nat) (ss : List Int) (j : Nat) : Pt := ⟨ts.getD j 0, IntKind.i64.wrap (vs.getD j 0 : Nat), ss.getD j 0⟩
theorem colL_ok {f : Nat → Pt} {n : Nat} (h : colV f n = true) : colL f n = (F.sealL 3 (colUp f n 3), 0) := by unfold colL; rw [if_pos h]
/-- What decoders that go well have told is encoded as it was. -/
theorem enc_of_parts {b : List Nat} (hb : ∀ x ∈ b, x < 256) (hP : Parts b) {ts : List Int} {vs : List Nat} {ss : List Int} (h0 : D.decA (cPt (F.openI b) 0) (V.vget (F.openI b)).1 = (ts, 0)) (h1 : X.decXA (cPt (F.openI b) 1) (V.vget (F.openI b)).1 = some vs)
    (h2 : D.decA (cPt (F.openI b) 2) (V.vget (F.openI b)).1 = (ss, 0)) (hvs : ∀ j, vs.getD j 0 < 18446744073709551616) (hI : ∀ j, (F.openI b).getD j 0 < 256) :
    F.sealL 3 (colUp (gP ts vs ss) (V.vget (F.openI b)).1 3) = b ∧ ts.length = (V.vget (F.openI b)).1 ∧ vs.length = (V.vget (F.openI b)).1 ∧ ss.length = (V.vget (F.openI b)).1 := by
  obtain ⟨g1, -, -⟩ := F.seal_of_open hb hP.e
  obtain ⟨g2, -⟩ := parts_up hI hP.v 3 (fun i hi => hP.t i hi)
  have hpb : ∀ j, j < 3 → ∀ i, (cPt (F.openI b) j).getD i 0 < 256 := fun j hj => by
    obtain ⟨k1, k2, -⟩ := vtext_get (l := (F.openI b).drop (cAt (F.openI b) j)) (most := 1048576) (V.getD_drop_lt hI _) (hP.t j hj)
    refine V.getD_all_lt (fun x hx => ?_)
    have hm : x ∈ ((F.openI b).drop (cAt (F.openI b) j)).take (V.vtext ((F.openI b).drop (cAt (F.openI b) j)) 1048576).2.1 := by rw [k2]; exact List.mem_append_right _ hx
    exact F.mem_byte hI x (List.mem_of_mem_drop (List.mem_of_mem_take hm))
  obtain ⟨n, hn⟩ : ∃ n, n = (V.vget (F.openI b)).1 := ⟨_, rfl⟩
  obtain ⟨a1, a2, a3⟩ := D.decA_ok (hpb 0 (by omega)) h0
  obtain ⟨b1, b2, b3⟩ := X.decXA_ok (hpb 1 (by omega)) h1
  obtain ⟨c1, c2, c3⟩ := D.decA_ok (hpb 2 (by omega)) h2
  rw [← hn] at a1 b1 c1 g2 ⊢
  have ea : ts.length = n := by omega
  have eb : vs.length = n := by omega
  have ec : ss.length = n := by omega
  refine ⟨?_, ea, eb, ec⟩
  rw [ea] at a3
  rw [eb] at b3
  rw [ec] at c3
  have p0 : partA (gP ts vs ss) n 0 = cPt (F.openI b) 0 := by
    rw [← a3]
    show pack (D.encTo (tOf (gP ts vs ss) n) n) = _
    rw [(D.encTo_congr (f := tOf (gP ts vs ss) n) (g := fun j => ts.getD j 0) n (fun j hj => by unfold tOf; exact (if_pos hj).trans rfl)).1]
  have p1 : partA (gP ts vs ss) n 1 = cPt (F.openI b) 1 := by
    rw [← b3]
    show pack (X.xencTo (vOf (gP ts vs ss) n) n) = _
    rw [(X.xencTo_congr (f := vOf (gP ts vs ss) n) (g := fun j => vs.getD j 0) n (fun j hj => by
      unfold vOf
      rw [if_pos hj]
      show (IntKind.u64.wrap (IntKind.i64.wrap (vs.getD j 0 : Nat))).toNat = vs.getD j 0
      have := hvs j
      rw [IntKind.wrap_i64, IntKind.wrap_u64]
      omega)).1]
  have p2 : partA (gP ts vs ss) n 2 = cPt (F.openI b) 2 := by
    rw [← c3]
    show pack (D.encTo (sOf (gP ts vs ss) n) n) = _
    rw [(D.encTo_congr (f := sOf (gP ts vs ss) n) (g := fun j => ss.getD j 0) n (fun j hj => by unfold sOf; exact (if_pos hj).trans rfl)).1]
  rw [colUp_upL, upL_congr (q := cPt (F.openI b)) 3 (fun i hi => by
    have h3 : i = 0 ∨ i = 1 ∨ i = 2 := by omega
    rcases h3 with rfl | rfl | rfl
    · exact p0
    · exact p1
    · exact p2), ← g2, hP.z, List.take_length, ← hP.k]
  exact g1.symm
/-- A block that was encoded has its parts. -/
theorem parts_of_enc {f : Nat → Pt} {n : Nat} {b : List Nat} (hv : colV f n = true) (hb : F.sealL 3 (colUp f n 3) = b) :
    Parts b ∧ (V.vget (F.openI b)).1 = n ∧ D.decA (cPt (F.openI b) 0) n = (D.upTo (tOf f n) n, 0) ∧ X.decXA (cPt (F.openI b) 1) n = some (X.upToN (vOf f n) n) ∧ D.decA (cPt (F.openI b) 2) n = (D.upTo (sOf f n) n, 0) := by
  obtain ⟨-, -, hn4⟩ := colV_spec hv
  have hlen := colUp_len f n hn4 3
  obtain ⟨o1, o2, o3⟩ := F.open_seal (kind := 3) (bs := colUp f n 3) (by omega) (colUp_byte f n 3) (by omega)
  rw [hb] at o1 o2 o3
  rw [o3]
  obtain ⟨u1, u2, u3⟩ := up_parts (n := n) (p := partA f n) (by omega) (fun i => by have := partA_len f n i hn4; omega)
  rw [← colUp_upL] at u1 u2 u3
  obtain ⟨w1, w2⟩ := u3 3 (Nat.le_refl _)
  rw [← colUp_upL] at w1
  refine ⟨⟨o1, o2, by rw [o3]; exact u2, by rw [o3, u1]; exact hn4, fun j hj => by rw [o3]; exact (w2 j hj).2, by rw [o3]; exact w1⟩, u1, ?_, ?_, ?_⟩
  · rw [(w2 0 (by omega)).1]
    unfold D.decA
    rw [if_neg (by omega), if_neg (by omega)]
    exact D.dec_back (tOf_range hv) n
  · rw [(w2 1 (by omega)).1]
    unfold X.decXA
    rw [if_neg (by omega), if_neg (by omega)]
    exact X.xdec_back (vOf_lt f n) n
  · rw [(w2 2 (by omega)).1]
    unfold D.decA
    rw [if_neg (by omega), if_neg (by omega)]
    exact D.dec_back (sOf_range hv) n
theorem getD_upTo {α : Type} (g : Nat → α) (n j : Nat) (d : α) (hj : j < n) : ((List.range n).map g).getD j d = g j := by simp [List.getD_eq_getElem?_getD, hj]
theorem colV_ts {f g : Nat → Pt} (n : Nat) (h : ∀ j, j < n → (f j).t = (g j).t ∧ (f j).s = (g j).s) : colV f n = colV g n := by
  have ha : ∀ m, m ≤ n → colAll f m = colAll g m := by
    intro m
    induction m with
    | zero => intro _; rfl
    | succ m ih =>
      intro hm
      show (colAll f m && colOk f m) = (colAll g m && colOk g m)
      rw [ih (by omega)]
      have e : colOk f m = colOk g m := by
        have e1 : colT f m = colT g m := by
          cases m with
          | zero => rfl
          | succ m => exact (h m (by omega)).1
        unfold colOk
        rw [e1, (h m (by omega)).1, (h m (by omega)).2]
      rw [e]
  unfold colV
  rw [ha n (Nat.le_refl _)]
/-- The lists of what was encoded make the same points. -/
theorem gP_enc (f : Nat → Pt) (n j : Nat) (hj : j < n) : (gP (D.upTo (tOf f n) n) (X.upToN (vOf f n) n) (D.upTo (sOf f n) n) j).t = (f j).t ∧ (gP (D.upTo (tOf f n) n) (X.upToN (vOf f n) n) (D.upTo (sOf f n) n) j).s = (f j).s ∧
    (I64 (f j).v → (gP (D.upTo (tOf f n) n) (X.upToN (vOf f n) n) (D.upTo (sOf f n) n) j).v = (f j).v) := by
  unfold gP D.upTo X.upToN
  simp only [getD_upTo _ _ _ _ hj]
  unfold tOf vOf sOf
  rw [if_pos hj, if_pos hj, if_pos hj]
  refine ⟨rfl, rfl, fun hr => ?_⟩
  unfold I64 at hr
  rw [IntKind.wrap_i64, IntKind.wrap_u64]
  omega
/-- b is the block of the points f 0 .. f (n - 1). -/
def IsEnc (b : List Nat) (f : Nat → Pt) (n : Nat) : Prop := colV f n = true ∧ F.sealL 3 (colUp f n 3) = b
def NotEnc (b : List Nat) : Prop := ∀ f n, ¬ IsEnc b f n
/-- One block has one list of points. -/
theorem enc_inj {b : List Nat} {f g : Nat → Pt} {n m : Nat} (hf : IsEnc b f n) (hg : IsEnc b g m) (vf : ∀ j, j < n → I64 (f j).v) (vg : ∀ j, j < m → I64 (g j).v) : n = m ∧ ∀ j, j < n → f j = g j := by
  obtain ⟨-, f1, f2, f3, f4⟩ := parts_of_enc hf.1 hf.2
  obtain ⟨-, g1, g2, g3, g4⟩ := parts_of_enc hg.1 hg.2
  obtain rfl : n = m := by omega
  rw [f2] at g2
  rw [f3] at g3
  rw [f4] at g4
  injection g2 with h2 _
  injection g3 with h3
  injection g4 with h4 _
  refine ⟨rfl, fun j hj => ?_⟩
  obtain ⟨a1, a2, a3⟩ := gP_enc f n j hj
  obtain ⟨b1, b2, b3⟩ := gP_enc g n j hj
  rw [← h2, ← h3, ← h4] at b1 b2 b3
  have c1 := a1.symm.trans b1
  have c2 := a2.symm.trans b2
  have c3 := (a3 (vf j hj)).symm.trans (b3 (vg j hj))
  cases hfj : f j
  cases hgj : g j
  rw [hfj, hgj] at c1 c2 c3
  simp only at c1 c2 c3
  rw [c1, c2, c3]
end Go.Proofs.YtboecnakndpgfaaDoor
