/-
  Three rows that grow side by side; a region that draws its order and appends to each of the three.
-/
import Derived.Test.YtboecnakndpgfaaMem
import Derived.Test.YtboecnakndpgfaaTl
import Derived.Test.YtboecnakndpgfaaReg
import Derived.Great.BuildSlice
namespace Go.Proofs.Ytboecnakndpgfaa
open Go.RowKit
set_option linter.unusedVariables false
set_option linter.unusedSimpArgs false
def upd {α : Type} (f : Fin 3 → α) (c : Fin 3) (u : α) : Fin 3 → α := fun d => if d = c then u else f d
theorem upd_same {α : Type} (f : Fin 3 → α) (c : Fin 3) (u : α) : upd f c u c = u := by unfold upd; rw [if_pos rfl]
theorem upd_ne {α : Type} (f : Fin 3 → α) {c d : Fin 3} (u : α) (h : d ≠ c) : upd f c u d = f d := by unfold upd; rw [if_neg h]
/-- Three rows of the call's own, in three blocks. -/
structure R3 (e : Fin 3 → TypeId) (w0 w : World) (x : Nat) (v : Fin 3 → Value) (l : Fin 3 → List Value) : Prop where
  own : ∀ c, w.ownsRow x (e c) 1 (v c) (l c).length (l c)
  dis : ∀ c d, c ≠ d → ∀ g, (v c).ownBlock = some g → (v d).ownBlock ≠ some g
  keep : Keeps (fun _ => False) w0 w
  base : w0.heap.size ≤ x
  size : x ≤ w.heap.size
variable {e : Fin 3 → TypeId} {w0 w w' : World} {x : Nat} {v z : Fin 3 → Value} {l : Fin 3 → List Value}
theorem grown_keeps {v : Value} (hg : w.grownBy w' v.ownBlock) : Keeps (fun k => v.ownBlock = some k) w w' := (Keeps.refl _ w).grown hg (fun k hk _ => hk)
theorem R3.alloc (h : R3 e w0 w x v l) (o : Obj) : R3 e w0 (w.alloc o) x v l :=
  ⟨fun c => (h.own c).alloc o, h.dis, h.keep.alloc o, h.base, by simp; have := h.size; omega⟩
theorem R3.drew (h : R3 e w0 w x v l) : R3 e w0 w.drew x v l := ⟨fun c => own_keeps (h.own c) ((Keeps.refl (fun _ => False) w).drew) (fun _ _ h => h), h.dis, h.keep.drew, h.base, h.size⟩
theorem R3.keeps (h : R3 e w0 w x v l) (hk : Keeps (fun _ => False) w w') : R3 e w0 w' x v l :=
  ⟨fun c => own_keeps (h.own c) hk (fun _ _ h => h), h.dis, h.keep.trans' hk, h.base, Nat.le_trans h.size hk.size⟩
theorem R3.lt (h : R3 e w0 w x v l) (c : Fin 3) {g : Nat} (hg : (v c).ownBlock = some g) : x ≤ g ∧ g < w.heap.size := (h.own c).lt g hg
theorem R3.start (e : Fin 3 → TypeId) (hk : Keeps (fun _ => False) w0 w) : R3 e w0 w w.heap.size (fun _ => .slice none 0 0) (fun _ => []) :=
  ⟨fun c => ⟨rfl, .inl ⟨rfl, rfl⟩⟩, fun _ _ _ g hg => by simp [Value.ownBlock] at hg, hk, hk.size, Nat.le_refl _⟩
theorem R3.grow (h : R3 e w0 w x v l) (c : Fin 3) {v' u : Value} (hown : w'.ownsRow x (e c) 1 v' ((l c).length + 1) (l c ++ [u])) (hg : w.grownBy w' (v c).ownBlock) (hb : v'.ownBlock = (v c).ownBlock ∨ v'.ownBlock = some w.heap.size) :
    R3 e w0 w' x (upd v c v') (upd l c (l c ++ [u])) := by
  have hk := grown_keeps hg
  refine ⟨fun d => ?_, fun c1 d1 hne g hg1 hg2 => ?_, h.keep.trans hk (fun k hk e => by have := (h.lt c e).1; have := h.base; omega), h.base, Nat.le_trans h.size hk.size⟩
  · by_cases hd : d = c
    · subst hd
      rw [upd_same, upd_same, List.length_append]
      exact hown
    · rw [upd_ne _ _ hd, upd_ne _ _ hd]
      exact own_keeps (h.own d) hk (fun g hg e => h.dis d c hd g hg e)
  · by_cases h1 : c1 = c
    · subst h1
      rw [upd_same] at hg1
      rw [upd_ne _ _ (Ne.symm hne)] at hg2
      rcases hb with hb | hb
      · exact h.dis c1 d1 hne g (by rw [← hb]; exact hg1) hg2
      · rw [hb] at hg1; injection hg1 with hg1; have := (h.lt d1 hg2).2; omega
    · rw [upd_ne _ _ h1] at hg1
      by_cases h2 : d1 = c
      · subst h2
        rw [upd_same] at hg2
        rcases hb with hb | hb
        · exact h.dis c1 d1 hne g hg1 (by rw [← hb]; exact hg2)
        · rw [hb] at hg2; injection hg2 with hg2; have := (h.lt c1 hg1).2; omega
      · rw [upd_ne _ _ h2] at hg2
        exact h.dis c1 d1 hne g hg1 hg2
/-- How far an append has come: not begun; its one cell built; appended. -/
inductive Sg
  | z
  | b (q : Nat)
  | r (q : Nat) (v : Value)
def Sg.row (v : Value) : Sg → Value
  | .r _ v' => v'
  | _ => v
def Sg.lst (l : List Value) (z : Value) : Sg → List Value
  | .r _ _ => l ++ [z]
  | _ => l
def oneAt (q : Nat) : Value := .slice (some ⟨q, 0, none⟩) 1 1
structure W3 (e : Fin 3 → TypeId) (w0 : World) (x : Nat) (v z : Fin 3 → Value) (l : Fin 3 → List Value) (y : Nat) (Y : Option Obj) (s : Fin 3 → Sg) (w : World) : Prop where
  r : R3 e w0 w x (fun c => (s c).row (v c)) (fun c => (s c).lst (l c) (z c))
  cel : ∀ c q, s c = .b q → w.cell? ⟨q, 0 + 0, none⟩ = some (z c) ∧ ∀ d g, ((s d).row (v d)).ownBlock = some g → g ≠ q
  yk : w.heap[y]? = Y
  yn : ∀ d g, ((s d).row (v d)).ownBlock = some g → g ≠ y
  yl : y < w.heap.size
variable {y : Nat} {Y : Option Obj} {s : Fin 3 → Sg}
theorem row_b {v : Fin 3 → Value} {s : Fin 3 → Sg} {c : Fin 3} (hs : s c = .z) (q : Nat) : (fun d => (upd s c (.b q) d).row (v d)) = fun d => (s d).row (v d) := by
  funext d
  by_cases h : d = c
  · subst h; rw [upd_same, hs]; rfl
  · rw [upd_ne _ _ h]
theorem lst_b {l : Fin 3 → List Value} {z : Fin 3 → Value} {s : Fin 3 → Sg} {c : Fin 3} (hs : s c = .z) (q : Nat) : (fun d => (upd s c (.b q) d).lst (l d) (z d)) = fun d => (s d).lst (l d) (z d) := by
  funext d
  by_cases h : d = c
  · subst h; rw [upd_same, hs]; rfl
  · rw [upd_ne _ _ h]
theorem row_r {v : Fin 3 → Value} (s : Fin 3 → Sg) (c : Fin 3) (q : Nat) (v' : Value) : (fun d => (upd s c (.r q v') d).row (v d)) = upd (fun d => (s d).row (v d)) c v' := by
  funext d
  by_cases h : d = c
  · subst h; rw [upd_same, upd_same]; rfl
  · rw [upd_ne _ _ h, upd_ne _ _ h]
theorem lst_r {l : Fin 3 → List Value} {z : Fin 3 → Value} {s : Fin 3 → Sg} {c : Fin 3} {q : Nat} (hs : s c = .b q) (v' : Value) : (fun d => (upd s c (.r q v') d).lst (l d) (z d)) = upd (fun d => (s d).lst (l d) (z d)) c ((s c).lst (l c) (z c) ++ [z c]) := by
  funext d
  by_cases h : d = c
  · subst h; rw [upd_same, upd_same, hs]; rfl
  · rw [upd_ne _ _ h, upd_ne _ _ h]
theorem W3.bld (h : W3 e w0 x v z l y Y s w) {c : Fin 3} (hs : s c = .z) (t : TypeId) : W3 e w0 x v z l y Y (upd s c (.b w.heap.size)) (w.alloc (.cells #[z c] t)) := by
  have er := row_b (v := v) hs w.heap.size
  have er' : ∀ d, (upd s c (.b w.heap.size) d).row (v d) = (s d).row (v d) := fun d => congrFun er d
  refine ⟨?_, fun d q hq => ?_, ?_, fun d g hg => ?_, by simp; have := h.yl; omega⟩
  · rw [er, lst_b hs]
    exact h.r.alloc _
  · have hg : ∀ d' g, ((upd s c (.b w.heap.size) d').row (v d')).ownBlock = some g → x ≤ g ∧ g < w.heap.size := fun d' g hg => by rw [er' d'] at hg; exact h.r.lt d' hg
    by_cases hd : d = c
    · subst hd
      rw [upd_same] at hq
      injection hq with hq
      subst hq
      exact ⟨cell_one w t (z d) 0 (by omega), fun d' g hg' => by have := (hg d' g hg').2; omega⟩
    · rw [upd_ne _ _ hd] at hq
      obtain ⟨h1, h2⟩ := h.cel d q hq
      exact ⟨(World.cell?_alloc_lt w _ _ (World.block_lt_of_cell? w _ h1)).trans h1, fun d' g hg' => h2 d' g (by rw [er' d'] at hg'; exact hg')⟩
  · rw [← h.yk]; exact Below.heap_alloc _ _ _ h.yl
  · rw [er' d] at hg; exact h.yn d g hg
theorem W3.app (h : W3 e w0 x v z l y Y s w) {c : Fin 3} {q : Nat} (hs : s c = .b q) {v' : Value} (hown : w'.ownsRow x (e c) 1 v' (((s c).lst (l c) (z c)).length + 1) ((s c).lst (l c) (z c) ++ [z c])) (hg : w.grownBy w' ((s c).row (v c)).ownBlock)
    (hb : v'.ownBlock = ((s c).row (v c)).ownBlock ∨ v'.ownBlock = some w.heap.size) : W3 e w0 x v z l y Y (upd s c (.r q v')) w' := by
  have hk := grown_keeps hg
  have er := row_r (v := v) s c q v'
  have er' : ∀ d, (upd s c (.r q v') d).row (v d) = upd (fun d => (s d).row (v d)) c v' d := fun d => congrFun er d
  have hrow : ∀ d g, ((upd s c (.r q v') d).row (v d)).ownBlock = some g → (∃ d', ((s d').row (v d')).ownBlock = some g) ∨ g = w.heap.size := fun d g hg' => by
    rw [er' d] at hg'
    by_cases hd : d = c
    · subst hd
      rw [upd_same] at hg'
      rcases hb with hb | hb
      · exact .inl ⟨d, by rw [← hb]; exact hg'⟩
      · rw [hb] at hg'; injection hg' with hg'; exact .inr hg'.symm
    · rw [upd_ne _ _ hd] at hg'; exact .inl ⟨d, hg'⟩
  refine ⟨?_, fun d q2 hq => ?_, ?_, fun d g hg' => ?_, Nat.lt_of_lt_of_le h.yl hk.size⟩
  · rw [er, lst_r hs]
    exact h.r.grow c hown hg hb
  · by_cases hd : d = c
    · subst hd; rw [upd_same] at hq; cases hq
    · rw [upd_ne _ _ hd] at hq
      obtain ⟨h1, h2⟩ := h.cel d q2 hq
      have hlt := World.block_lt_of_cell? w _ h1
      refine ⟨(World.cell?_of_block (w := w) (a := ⟨q2, 0 + 0, none⟩) (hk.block q2 hlt (fun e => h2 c q2 e rfl))).trans h1, fun d' g hg' => ?_⟩
      rcases hrow d' g hg' with ⟨d2, h3⟩ | h3
      · exact h2 d2 g h3
      · have : q2 < w.heap.size := hlt
        omega
  · rw [← h.yk]; exact hk.block y h.yl (fun e => h.yn c y e rfl)
  · rcases hrow d g hg' with ⟨d2, h3⟩ | h3
    · exact h.yn d2 g h3
    · have := h.yl; omega
theorem put_comm {a : Act} {i j : Nat} (h : i ≠ j) (u u' : Value) : (a.put (some i) u).put (some j) u' = (a.put (some j) u').put (some i) u := by
  unfold Act.put
  simp only
  rw [Array.setIfInBounds_comm _ _ h]
theorem put_eval_ne {a : Act} {i j : Nat} (h : i ≠ j) (u : Value) : (a.put (some j) u).eval (.tmp i) = a.eval (.tmp i) := by
  simp [Act.put, Act.eval, Array.getElem?_setIfInBounds, Array.getD_eq_getD_getElem?, Ne.symm h]
theorem put_eval_same {a : Act} {i : Nat} (h : i < a.tmps.size) (u : Value) : (a.put (some i) u).eval (.tmp i) = u := by
  simp [Act.put, Act.eval, Array.getElem?_setIfInBounds, Array.getD_eq_getD_getElem?, h]
theorem put_size (a : Act) (i : Nat) (u : Value) : (a.put (some i) u).tmps.size = a.tmps.size := by simp [Act.put]
def Sg.puts (tb tr : Nat) : Sg → Act → Act
  | .z, a => a
  | .b q, a => a.put (some tb) (oneAt q)
  | .r q v, a => (a.put (some tb) (oneAt q)).put (some tr) v
theorem puts_z (tb tr : Nat) (a : Act) : Sg.puts tb tr .z a = a := rfl
theorem puts_b (tb tr q : Nat) (a : Act) : Sg.puts tb tr (.b q) a = a.put (some tb) (oneAt q) := rfl
theorem puts_r (tb tr q : Nat) (v : Value) (a : Act) : Sg.puts tb tr (.r q v) a = (a.put (some tb) (oneAt q)).put (some tr) v := rfl
theorem puts_put (s : Sg) {tb tr i : Nat} (h1 : i ≠ tb) (h2 : i ≠ tr) (a : Act) (u : Value) : s.puts tb tr (a.put (some i) u) = (s.puts tb tr a).put (some i) u := by
  cases s with
  | z => rfl
  | b q => rw [puts_b, puts_b, put_comm h1]
  | r q v => rw [puts_r, puts_r, put_comm h1, put_comm h2]
theorem puts_size (s : Sg) (tb tr : Nat) (a : Act) : (s.puts tb tr a).tmps.size = a.tmps.size := by cases s <;> simp [Sg.puts, put_size]
theorem puts_eval (s : Sg) {tb tr i : Nat} (h1 : i ≠ tb) (h2 : i ≠ tr) (a : Act) : (s.puts tb tr a).eval (.tmp i) = a.eval (.tmp i) := by
  cases s <;> simp [Sg.puts, put_eval_ne h1, put_eval_ne h2]
def act3 (tb tr : Fin 3 → Nat) (s : Fin 3 → Sg) (a : Act) : Act := (s 2).puts (tb 2) (tr 2) ((s 1).puts (tb 1) (tr 1) ((s 0).puts (tb 0) (tr 0) a))
/-- The slots of the three appends are six. -/
def Six (tb tr : Fin 3 → Nat) : Prop := ∀ c d, (c ≠ d → tb c ≠ tb d ∧ tr c ≠ tr d) ∧ tb c ≠ tr d
theorem act3_bld {tb tr : Fin 3 → Nat} (h6 : Six tb tr) {s : Fin 3 → Sg} {c : Fin 3} (hs : s c = .z) (q : Nat) (a : Act) : (act3 tb tr s a).put (some (tb c)) (oneAt q) = act3 tb tr (upd s c (.b q)) a := by
  have hb := fun c d h => ((h6 c d).1 h).1
  have hr := fun c d => (h6 c d).2
  unfold act3
  match c, hs with
  | 0, hs => rw [upd_same, upd_ne _ _ (by decide), upd_ne _ _ (by decide), hs, puts_b, puts_put _ (hb 0 1 (by decide)) (hr 0 1), puts_put _ (hb 0 2 (by decide)) (hr 0 2), puts_z]
  | 1, hs => rw [upd_same, upd_ne _ _ (by decide), upd_ne _ _ (by decide), hs, puts_b, puts_put _ (hb 1 2 (by decide)) (hr 1 2), puts_z]
  | 2, hs => rw [upd_same, upd_ne _ _ (by decide), upd_ne _ _ (by decide), hs]; rfl
theorem act3_app {tb tr : Fin 3 → Nat} (h6 : Six tb tr) {s : Fin 3 → Sg} {c : Fin 3} {q : Nat} (hs : s c = .b q) (v' : Value) (a : Act) : (act3 tb tr s a).put (some (tr c)) v' = act3 tb tr (upd s c (.r q v')) a := by
  have hb := fun c d h => ((h6 c d).1 h).2
  have hr := fun c d => ((h6 c d).2).symm
  unfold act3
  match c, hs with
  | 0, hs => rw [upd_same, upd_ne _ _ (by decide), upd_ne _ _ (by decide), hs, puts_r, puts_put _ (hr 1 0) (hb 0 1 (by decide)), puts_put _ (hr 2 0) (hb 0 2 (by decide)), puts_b]
  | 1, hs => rw [upd_same, upd_ne _ _ (by decide), upd_ne _ _ (by decide), hs, puts_r, puts_put _ (hr 2 1) (hb 1 2 (by decide)), puts_b]
  | 2, hs => rw [upd_same, upd_ne _ _ (by decide), upd_ne _ _ (by decide), hs]; rfl
theorem act3_eval {tb tr : Fin 3 → Nat} (s : Fin 3 → Sg) {i : Nat} (h : ∀ c, i ≠ tb c ∧ i ≠ tr c) (a : Act) : (act3 tb tr s a).eval (.tmp i) = a.eval (.tmp i) := by
  unfold act3
  rw [puts_eval _ (h 2).1 (h 2).2, puts_eval _ (h 1).1 (h 1).2, puts_eval _ (h 0).1 (h 0).2]
theorem act3_size (tb tr : Fin 3 → Nat) (s : Fin 3 → Sg) (a : Act) : (act3 tb tr s a).tmps.size = a.tmps.size := by unfold act3; rw [puts_size, puts_size, puts_size]
theorem act3_blt {tb tr : Fin 3 → Nat} (h6 : Six tb tr) {s : Fin 3 → Sg} {c : Fin 3} {q : Nat} (hs : s c = .b q) (a : Act) (hsz : tb c < a.tmps.size) : (act3 tb tr s a).eval (.tmp (tb c)) = oneAt q := by
  have e : s = upd (upd s c .z) c (.b q) := by
    funext d
    by_cases h : d = c
    · subst h; rw [upd_same, hs]
    · rw [upd_ne _ _ h, upd_ne _ _ h]
  rw [e, ← act3_bld h6 (upd_same _ _ _), put_eval_same (by rw [act3_size]; exact hsz)]
def Sg.b1 : Sg → Bool
  | .z => false
  | _ => true
def Sg.b2 : Sg → Bool
  | .r _ _ => true
  | _ => false
def Sg.nx (i j : Nat) : Sg → List Nat
  | .z => [i]
  | .b _ => [j]
  | .r _ _ => []
/-- The same where an append waits for the one ahead of it (bb: that one is done). -/
def Sg.nxc (bb : Bool) (i j : Nat) : Sg → List Nat
  | .z => [i]
  | .b _ => if bb = true then [j] else []
  | .r _ _ => []
def cnx (jb ja : Fin 3 → Nat) (s : Fin 3 → Sg) : List Nat := (s 0).nxc true (jb 0) (ja 0) ++ ((s 1).nxc (s 0).b2 (jb 1) (ja 1) ++ (s 2).nxc (s 1).b2 (jb 2) (ja 2))
def okc (s : Fin 3 → Sg) : Prop := ((s 1).b2 = true → (s 0).b2 = true) ∧ ((s 2).b2 = true → (s 1).b2 = true)
theorem okc_bld {s : Fin 3 → Sg} (h : okc s) {c : Fin 3} (hs : s c = .z) (q : Nat) : okc (upd s c (.b q)) := by
  have e : ∀ d, (upd s c (.b q) d).b2 = (s d).b2 := fun d => by
    by_cases hd : d = c
    · subst hd; rw [upd_same, hs]; rfl
    · rw [upd_ne _ _ hd]
  unfold okc
  rw [e, e, e]
  exact h
theorem okc_app {s : Fin 3 → Sg} (h : okc s) {c : Fin 3} {q : Nat} (hs : s c = .b q) (hp : c = 0 ∨ c = 1 ∧ (s 0).b2 = true ∨ c = 2 ∧ (s 1).b2 = true) (v' : Value) : okc (upd s c (.r q v')) := by
  have hf : (s c).b2 = false := by rw [hs]; rfl
  rcases hp with rfl | ⟨rfl, hb⟩ | ⟨rfl, hb⟩
  · exact ⟨fun _ => by rw [upd_same]; rfl, fun h2 => by rw [upd_ne _ _ (by decide)] at h2 ⊢; exact h.2 h2⟩
  · exact ⟨fun _ => by rw [upd_ne _ _ (by decide)]; exact hb, fun _ => by rw [upd_same]; rfl⟩
  · exact ⟨fun h2 => by rw [upd_ne _ _ (by decide)] at h2 ⊢; exact h.1 h2, fun _ => by rw [upd_ne _ _ (by decide)]; exact hb⟩
def Sg.left : Sg → Nat
  | .z => 2
  | .b _ => 1
  | .r _ _ => 0
def left3 (s : Fin 3 → Sg) : Nat := (s 0).left + (s 1).left + (s 2).left
theorem left3_upd (s : Fin 3 → Sg) (c : Fin 3) (g : Sg) (h : g.left + 1 = (s c).left) : left3 (upd s c g) + 1 = left3 s := by
  unfold left3
  match c, h with
  | 0, h => rw [upd_same, upd_ne _ _ (by decide), upd_ne _ _ (by decide)]; omega
  | 1, h => rw [upd_same, upd_ne _ _ (by decide), upd_ne _ _ (by decide)]; omega
  | 2, h => rw [upd_same, upd_ne _ _ (by decide), upd_ne _ _ (by decide)]; omega
section
variable {P : Program} {ops : Array Oper} {Q : Exit → Act → World → Prop} {S : World → Prop}
theorem step_build {o : Oper} {a : Act} {w : World} {K : Act → World → Prop} {E : Prop} (t e : TypeId) (hgd : o.guard = none) (x : Operand) {u zz : Value} (ho : o.op = .buildSlice t 1 #[(0, x)]) (hx : a.eval x = u) (hu1 : u.oneCell' = true) {bytes : Nat}
    (he : Elem1 P t e zz bytes) (h : K (a.put o.dst (oneAt w.heap.size)) (w.alloc (.cells #[u] e))) :
    if Region.wanted o (yielded ops a.tmps) = true then Oper.wp P o a w K Q else E := by
  have hw : Region.wanted o (yielded ops a.tmps) = true := by simp [Region.wanted, hgd]
  rw [if_pos hw]
  obtain ⟨ht, hz1, i, hi, hz, hs, hb⟩ := he
  refine wp_buildSlice t e 1 #[(0, x)] ho #[u] i zz ht hi hz (by rw [hs]; decide) (by rw [hs]; decide) ?_ h
  have hone : u.cells = #[u] := by cases u <;> first | rfl | simp [Value.oneCell'] at hu1
  have h1 : ∀ A : Array Value, A.size = 1 → A.setIfInBounds 0 u = #[u] := fun A hA => by
    apply Array.ext
    · simp [hA]
    · intro j h1 h2
      have : j = 0 := by simp at h2; omega
      subst this
      simp
  simp [Instr.fill, hx, hs, hone]
  exact h1 _ (by simp)
end
/-- What the law of the three appends asks of the region. -/
structure Reg3 (P : Program) (ops : Array Oper) (tb tr : Fin 3 → Nat) (jb ja : Fin 3 → Nat) (tm tv : Fin 3 → Nat) (t e : Fin 3 → TypeId) (zz : Fin 3 → Value) (by_ : Fin 3 → Nat) (lst : (Fin 3 → Sg) → Array Bool) : Prop where
  six : Six tb tr
  elem : ∀ c, Elem1 P (t c) (e c) (zz c) (by_ c)
  bop : ∀ c, ∃ o, ops[jb c]? = some o ∧ o.guard = none ∧ o.op = .buildSlice (t c) 1 #[(0, .tmp (tv c))] ∧ o.dst = some (tb c)
  aop : ∀ c, ∃ o, ops[ja c]? = some o ∧ o.guard = none ∧ o.op = .call { callee := .builtin .append, args := #[.tmp (tm c), .tmp (tb c)], argTypes := #[t c, t c] } ∧ o.dst = some (tr c)
  off : ∀ c d, (tm c ≠ tb d ∧ tm c ≠ tr d) ∧ (tv c ≠ tb d ∧ tv c ≠ tr d)
  lb : ∀ s c q, s c = .z → (lst s).setIfInBounds (jb c) true = lst (upd s c (.b q))
  lr : ∀ s c q v', s c = .b q → (lst s).setIfInBounds (ja c) true = lst (upd s c (.r q v'))
  ready : ∀ s, okc s → 0 < left3 s → Region.ready .any ops (lst s) = cnx jb ja s
theorem run3 {P : Program} {ops : Array Oper} {Q : Exit → Act → World → Prop} {S : World → Prop} {tb tr jb ja tm tv : Fin 3 → Nat} {t : Fin 3 → TypeId} {zz : Fin 3 → Value} {by_ : Fin 3 → Nat} {lst : (Fin 3 → Sg) → Array Bool}
    (hR : Reg3 P ops tb tr jb ja tm tv t e zz by_ lst) (a : Act) (hsz : ∀ c, tb c < a.tmps.size) (hm : ∀ c, a.eval (.tmp (tm c)) = v c) (hv : ∀ c, a.eval (.tmp (tv c)) = z c) (h1 : ∀ c, (z c).oneCell' = true) (hl : ∀ c, (l c).length + 1 ≤ maxLen ∧ ((l c).length + 1) * by_ c ≤ 140737488355328)
    (hS : ∀ s w, W3 e w0 x v z l y Y s w → S w) (fuel : Nat)
    (hend : ∀ s w, left3 s = 0 → W3 e w0 x v z l y Y s w → wpAnyH P .any ops Q S fuel (lst s) (act3 tb tr s a) w) :
    ∀ m s w, left3 s = m → okc s → W3 e w0 x v z l y Y s w → wpAnyH P .any ops Q S (fuel + m) (lst s) (act3 tb tr s a) w
  | 0, s, w, hm0, _, hW => hend s w hm0 hW
  | m + 1, s, w, hm0, hok, hW => by
    have ih := run3 hR a hsz hm hv h1 hl hS fuel hend m
    have go1 : ∀ c, s c = .z → AllReadyH P .any ops Q S (fuel + m) (lst s) (act3 tb tr s a) w [jb c] := by
      intro c hs
      obtain ⟨o, ho, hgd, hop, hdst⟩ := hR.bop c
      refine AllReadyH.cons ho (fun K hK => ?_) AllReadyH.nil
      refine step_build (t c) (e c) hgd _ hop ((act3_eval s (fun d => (hR.off c d).2) a).trans (hv c)) (h1 c) (hR.elem c) ?_
      rw [hdst, act3_bld hR.six hs]
      have hW' := hW.bld hs (e c)
      refine hK.out _ _ (hS _ _ hW') (fun _ => ?_)
      rw [hR.lb s c w.heap.size hs]
      exact ih _ _ (by have := left3_upd s c (.b w.heap.size) (by rw [hs]; rfl); omega) (okc_bld hok hs _) hW'
    have go2 : ∀ c q, s c = .b q → (c = 0 ∨ c = 1 ∧ (s 0).b2 = true ∨ c = 2 ∧ (s 1).b2 = true) → AllReadyH P .any ops Q S (fuel + m) (lst s) (act3 tb tr s a) w [ja c] := by
      intro c q hs hp
      obtain ⟨o, ho, hgd, hop, hdst⟩ := hR.aop c
      refine AllReadyH.cons ho (fun K hK => ?_) AllReadyH.nil
      obtain ⟨hc, -⟩ := hW.cel c q hs
      have hown := hW.r.own c
      simp only [hs] at hown
      refine step_append_sl (A := some ⟨q, 0, none⟩) (c := 1) (D := fun _ => True) (m := 1) (f := fun _ => z c) (hR.elem c) hgd _ _ hop ((act3_eval s (fun d => (hR.off c d).1) a).trans (hm c)) (act3_blt hR.six hs a (hsz c)) hown
        (fun _ => ⟨q, 0, rfl, trivial, fun j hj => by obtain rfl : j = 0 := by omega
                                                      exact hc⟩) (fun _ _ => h1 c) (hl c).1 (hl c).2 hW.r.size ?_
      intro v' w' h2 h3 h4
      rw [hdst, act3_app hR.six hs]
      have hW' := hW.app (w' := w') (v' := v') hs (by rw [hs]; exact h2) (by rw [hs]; exact h3) (by rw [hs]; exact h4)
      refine hK.out _ _ (hS _ _ hW') (fun _ => ?_)
      rw [hR.lr s c q v' hs]
      exact ih _ _ (by have := left3_upd s c (.r q v') (by rw [hs]; rfl); omega) (okc_app hok hs hp v') hW'
    have go : ∀ c bb, (bb = true → c = 0 ∨ c = 1 ∧ (s 0).b2 = true ∨ c = 2 ∧ (s 1).b2 = true) → AllReadyH P .any ops Q S (fuel + m) (lst s) (act3 tb tr s a) w ((s c).nxc bb (jb c) (ja c)) := by
      intro c bb hbb
      cases hs : s c with
      | z => exact go1 c hs
      | b q =>
        show AllReadyH P .any ops Q S (fuel + m) (lst s) (act3 tb tr s a) w (if bb = true then [ja c] else [])
        cases bb with
        | false => exact AllReadyH.nil
        | true => exact go2 c q hs (hbb rfl)
      | r q v' => exact AllReadyH.nil
    refine wpAnyH_ready (hR.ready s hok (by omega)) ?_ ?_
    · intro h0
      unfold cnx at h0
      simp only [List.append_eq_nil_iff] at h0
      obtain ⟨g0, g1, g2⟩ := h0
      have hz : ∀ g : Sg, ∀ i j, g.nxc true i j = [] → g.left = 0 ∧ g.b2 = true := fun g i j h => by cases g <;> first | exact ⟨rfl, rfl⟩ | cases h
      have k0 := hz _ _ _ g0
      rw [k0.2] at g1
      have k1 := hz _ _ _ g1
      rw [k1.2] at g2
      have k2 := hz _ _ _ g2
      have := k0.1
      have := k1.1
      have := k2.1
      unfold left3 at hm0
      omega
    · intro i hi
      rcases List.mem_append.1 hi with h | h
      · exact go 0 true (fun _ => .inl rfl) i h
      · rcases List.mem_append.1 h with h | h
        · exact go 1 _ (fun hb => .inr (.inl ⟨rfl, hb⟩)) i h
        · exact go 2 _ (fun hb => .inr (.inr ⟨rfl, hb⟩)) i h
end Go.Proofs.Ytboecnakndpgfaa
