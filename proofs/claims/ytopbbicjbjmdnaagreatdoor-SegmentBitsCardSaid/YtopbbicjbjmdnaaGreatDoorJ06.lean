/-
  Texts of this proof, joined: ColD, Points, SgC, SgD.
-/
import Derived.Test.YtopbbicjbjmdnaaGreatDoorJ05
import Derived.WalkKit
import Derived.WalkSpells
import Derived.WalkLawsBesides
import Derived.Outline
import Derived.Laws.Tables
import Derived.Deep.Cut
import Derived.Test.YtopbbicjbjmdnaaGreatDoorJ01
import Derived.Test.YtopbbicjbjmdnaaGreatDoorRows
import Derived.Test.YtopbbicjbjmdnaaGreatDoorJ02
import Derived.Deep.Slices
import Derived.Deep.Fields
import Derived.ChangeSame
import Derived.Lib.MinMaxS
namespace Go.Proofs.YtopbbicjbjmdnaaGreatDoor
open Go.RowKit
set_option linter.unusedVariables false
set_option linter.unusedSimpArgs false
theorem W3.start {e : Fin 3 → TypeId} {w0 w : World} {x y : Nat} {v z : Fin 3 → Value} {l : Fin 3 → List Value} (h : R3 e w0 w x v l) (hy : y = w.heap.size) (t : TypeId) (cs : Array Value) :
    W3 e w0 x v z l y (some (.cells cs t (0, 0))) (fun _ => .z) (w.alloc (.cells cs t)) := by
  subst hy
  exact ⟨h.alloc _, fun c q hq => (by cases hq), Blk.fresh _ _ _, fun d g hg => (by have := (h.lt d hg).2; omega), by simp⟩
theorem W3.drew {e : Fin 3 → TypeId} {w0 w : World} {x y : Nat} {v z : Fin 3 → Value} {l : Fin 3 → List Value} {Y : Option Obj} {s : Fin 3 → Sg} (h : W3 e w0 x v z l y Y s w) : W3 e w0 x v z l y Y s w.drew :=
  ⟨h.r.drew, h.cel, h.yk, h.yn, h.yl⟩
def eTb (c : Fin 3) : Nat := match c with | 0 => 30 | 1 => 36 | 2 => 41
def eTr (c : Fin 3) : Nat := match c with | 0 => 31 | 1 => 37 | 2 => 42
def eTm (c : Fin 3) : Nat := match c with | 0 => 27 | 1 => 32 | 2 => 38
def eTv (c : Fin 3) : Nat := match c with | 0 => 29 | 1 => 35 | 2 => 40
def eJb (c : Fin 3) : Nat := match c with | 0 => 3 | 1 => 9 | 2 => 14
def eJa (c : Fin 3) : Nat := match c with | 0 => 4 | 1 => 10 | 2 => 15
def eLst (s : Fin 3 → Sg) : Array Bool := #[true, true, true, (s 0).b1, (s 0).b2, true, true, true, true, (s 1).b1, (s 1).b2, true, true, true, (s 2).b1, (s 2).b2, false, false, false]
theorem eSix : Six eTb eTr := by unfold Six; decide
theorem eLb (s : Fin 3 → Sg) (c : Fin 3) (q : Nat) (hs : s c = .z) : (eLst s).setIfInBounds (eJb c) true = eLst (upd s c (.b q)) := by
  unfold eLst
  match c, hs with
  | 0, hs => rw [upd_same, upd_ne _ _ (by decide), upd_ne _ _ (by decide), hs]; rfl
  | 1, hs => rw [upd_same, upd_ne _ _ (by decide), upd_ne _ _ (by decide), hs]; rfl
  | 2, hs => rw [upd_same, upd_ne _ _ (by decide), upd_ne _ _ (by decide), hs]; rfl
theorem eLr (s : Fin 3 → Sg) (c : Fin 3) (q : Nat) (v' : Value) (hs : s c = .b q) : (eLst s).setIfInBounds (eJa c) true = eLst (upd s c (.r q v')) := by
  unfold eLst
  match c, hs with
  | 0, hs => rw [upd_same, upd_ne _ _ (by decide), upd_ne _ _ (by decide), hs]; rfl
  | 1, hs => rw [upd_same, upd_ne _ _ (by decide), upd_ne _ _ (by decide), hs]; rfl
  | 2, hs => rw [upd_same, upd_ne _ _ (by decide), upd_ne _ _ (by decide), hs]; rfl
theorem left0 {s : Fin 3 → Sg} (h : left3 s = 0) (c : Fin 3) : ∃ q v, s c = .r q v := by
  unfold left3 at h
  have : (s c).left = 0 := by match c with | 0 => omega | 1 => omega | 2 => omega
  cases hs : s c with
  | z => rw [hs] at this; cases this
  | b q => rw [hs] at this; cases this
  | r q v => exact ⟨q, v, rfl⟩
def zOf (p : Pt) (c : Fin 3) : Value := match c with | 0 => .int .i64 p.t | 1 => .int .u64 (IntKind.u64.wrap p.v) | 2 => .int .i64 p.s
theorem zOf_is (f : Nat → Pt) (k : Nat) : zOf (f k) = fun c => colC f c k := by funext c; match c with | 0 => rfl | 1 => rfl | 2 => rfl
theorem W3.last {w0 w : World} {x y k : Nat} {v : Fin 3 → Value} {f : Nat → Pt} {p : Pt} {Y : Option Obj} {s : Fin 3 → Sg} (h : W3 cE w0 x v (zOf p) (colRow f k) y Y s w) (hp : f k = p) (hl : left3 s = 0) :
    R3 cE w0 w x (fun c => (s c).row (v c)) (colRow f (k + 1)) := by
  have hr := h.r
  have e : (fun c => (s c).lst (colRow f k c) (zOf p c)) = colRow f (k + 1) := by
    funext c
    obtain ⟨q, u, hs⟩ := left0 hl c
    rw [hs, colRow_succ, ← hp, zOf_is]; rfl
  rw [e] at hr
  exact hr
set_option maxRecDepth 100000 in
theorem index3 (A0 A1 A2 : Option Addr) (n0 n1 n2 c0 c1 c2 : Nat) (w : World) :
    (Instr.index 93 (.agg #[.slice A0 n0 c0, .slice A1 n1 c1, .slice A2 n2 c2]) (.int .i64 0)).run Tryz.prog w = .ok (.slice A0 n0 c0) w ∧
    (Instr.index 93 (.agg #[.slice A0 n0 c0, .slice A1 n1 c1, .slice A2 n2 c2]) (.int .i64 1)).run Tryz.prog w = .ok (.slice A1 n1 c1) w ∧
    (Instr.index 93 (.agg #[.slice A0 n0 c0, .slice A1 n1 c1, .slice A2 n2 c2]) (.int .i64 2)).run Tryz.prog w = .ok (.slice A2 n2 c2) w := by
  refine ⟨?_, rfl, rfl⟩
  unfold Instr.index
  simp [run_underlying Tryz.underlying93, asIntOf, go_sem]
set_option maxRecDepth 100000 in
set_option maxHeartbeats 8000000 in
theorem cencode_any (A : Option Addr) (n c : Nat) (f : Nat → Pt) (D0 : Nat → Prop) (w : World) (hsl : SlP w D0 A n f) (hn : n ≤ 9223372036854775807) :
    Calls Tryz.prog 19 #[.slice A n c] w (F.BytesPost w (colL f n).1 (colL f n).2) := by
  have HO := Lib.hid hsl
  clear hsl
  go_enter Tryz.func19, Tryz.ntmps19
  go_wp2_with fail
  refine (cvalid_any _ _ _ f D0 _ HO.out hn).mono ?_
  rintro e w1 ⟨rfl, hb1⟩
  cases hv : colV f n with
  | false =>
    have HF := Lib.hid (And.intro hv (Keeps.of_below (S := fun _ => False) hb1))
    clear hv hb1
    go_wp2_with fail
    go_ret2
    exact col_bad HF.out.1 HF.out.2
  | true =>
    obtain ⟨-, hn0, hn4⟩ := colV_spec hv
    have HV := Lib.hid hv
    have HS := Lib.hid (R3.start cE (Keeps.of_below (S := fun _ => False) hb1))
    clear hv hb1
    go_wp2_with fail
    go_loopw [4, 5, 6, 23] (fun v4 v5 v6 i wr => ∃ (k : Nat) (v : Fin 3 → Value), k ≤ n ∧ i = .int .i64 k ∧ v4 = v 0 ∧ v5 = v 2 ∧ v6 = v 1 ∧ R3 cE w wr w1.heap.size v (colRow f k)) (fun _ _ _ i _ => n - (intOf i).toNat)
    case atStart => exact ⟨0, _, Nat.zero_le _, rfl, rfl, rfl, rfl, HS.out⟩
    case round =>
      obtain ⟨k, v, hk, rfl, rfl, rfl, rfl, hR⟩ := hrel
      by_cases hlt : k < n
      · obtain ⟨b, off, rfl, -, hc⟩ := (HO.out.keeps hR.keep) (by omega)
        obtain ⟨k0, k1, k2⟩ := hc k hlt
        clear hc
        generalize hp : f k = p at k0 k1 k2
        obtain ⟨y, hy⟩ : ∃ y, y = wr.heap.size := ⟨_, rfl⟩
        have HY := Lib.hid (And.intro hy (And.intro hp (W3.start (z := zOf p) hR hy 30 #[.int .i64 p.t, .int .i64 p.v, .int .i64 p.s])))
        clear hy hp hR
        go_upto_region 8 with (fail)
        rw [← HY.out.1]
        have hS := HY.out.2.2
        have HP := Lib.hid HY.out.2.1
        clear k0 k1 k2 HY
        refine wp_gen (W3 cE w w1.heap.size v (zOf p) (colRow f k) y (some (.cells #[.int .i64 p.t, .int .i64 p.v, .int .i64 p.s] 30 (0, 0))) (fun _ => .z)) hS ?_
        clear hS
        intro w2 hS0
        have HW := Lib.hid hS0.drew
        clear hS0
        have hS : (fun w' => Blk w' y 30 #[.int .i64 p.t, .int .i64 p.v, .int .i64 p.s]) (w2.drew) := HW.out.yk
        refine reg_start (fun w' => Blk w' y 30 #[.int .i64 p.t, .int .i64 p.v, .int .i64 p.s]) (by kernel_rfl) hS ?_
        refine reg_take (i := 0) (v := ?_) rfl (by kernel_rfl) (by kernel_rfl) (by kernel_rfl) (fun _ _ _ h => h) (Or.inl ⟨by kernel_rfl, ?_⟩) hS ?_
        rotate_left
        · (intro w' hSw; have z0 := hSw.cell 0; have z1 := hSw.cell 1; have z2 := hSw.cell 2; simp only [List.getElem?_toArray, List.getElem?_cons_zero, List.getElem?_cons_succ] at z0 z1 z2; go_simp <;> with_reducible rfl)
        try simp only [List.getElem_toArray, List.getElem_cons_succ, List.getElem_cons_zero, Act.put, List.setIfInBounds_toArray, List.set_cons_zero, List.set_cons_succ]
        refine reg_take (i := 1) (v := ?_) rfl (by kernel_rfl) (by kernel_rfl) (by kernel_rfl) (fun _ _ _ h => h) (Or.inl ⟨by kernel_rfl, ?_⟩) hS ?_
        rotate_left
        · (intro w' hSw; have z0 := hSw.cell 0; have z1 := hSw.cell 1; have z2 := hSw.cell 2; simp only [List.getElem?_toArray, List.getElem?_cons_zero, List.getElem?_cons_succ] at z0 z1 z2; go_simp <;> with_reducible rfl)
        try simp only [List.getElem_toArray, List.getElem_cons_succ, List.getElem_cons_zero, Act.put, List.setIfInBounds_toArray, List.set_cons_zero, List.set_cons_succ]
        refine reg_take (i := 2) (v := ?_) rfl (by kernel_rfl) (by kernel_rfl) (by kernel_rfl) (fun _ _ _ h => h) (Or.inl ⟨by kernel_rfl, ?_⟩) hS ?_
        rotate_left
        · (intro w' hSw; have z0 := hSw.cell 0; have z1 := hSw.cell 1; have z2 := hSw.cell 2; simp only [List.getElem?_toArray, List.getElem?_cons_zero, List.getElem?_cons_succ] at z0 z1 z2; go_simp <;> with_reducible rfl)
        try simp only [List.getElem_toArray, List.getElem_cons_succ, List.getElem_cons_zero, Act.put, List.setIfInBounds_toArray, List.set_cons_zero, List.set_cons_succ]
        refine reg_take (i := 5) (v := ?_) rfl (by kernel_rfl) (by kernel_rfl) (by kernel_rfl) (fun _ _ _ h => h) (Or.inl ⟨by kernel_rfl, ?_⟩) hS ?_
        rotate_left
        · (intro w' hSw; have z0 := hSw.cell 0; have z1 := hSw.cell 1; have z2 := hSw.cell 2; simp only [List.getElem?_toArray, List.getElem?_cons_zero, List.getElem?_cons_succ] at z0 z1 z2; go_simp <;> with_reducible rfl)
        try simp only [List.getElem_toArray, List.getElem_cons_succ, List.getElem_cons_zero, Act.put, List.setIfInBounds_toArray, List.set_cons_zero, List.set_cons_succ]
        refine reg_take (i := 6) (v := ?_) rfl (by kernel_rfl) (by kernel_rfl) (by kernel_rfl) (fun _ _ _ h => h) (Or.inl ⟨by kernel_rfl, ?_⟩) hS ?_
        rotate_left
        · (intro w' hSw; have z0 := hSw.cell 0; have z1 := hSw.cell 1; have z2 := hSw.cell 2; simp only [List.getElem?_toArray, List.getElem?_cons_zero, List.getElem?_cons_succ] at z0 z1 z2; go_simp <;> with_reducible rfl)
        try simp only [List.getElem_toArray, List.getElem_cons_succ, List.getElem_cons_zero, Act.put, List.setIfInBounds_toArray, List.set_cons_zero, List.set_cons_succ]
        refine reg_take (i := 7) (v := ?_) rfl (by kernel_rfl) (by kernel_rfl) (by kernel_rfl) (fun _ _ _ h => h) (Or.inl ⟨by kernel_rfl, ?_⟩) hS ?_
        rotate_left
        · (intro w' hSw; have z0 := hSw.cell 0; have z1 := hSw.cell 1; have z2 := hSw.cell 2; simp only [List.getElem?_toArray, List.getElem?_cons_zero, List.getElem?_cons_succ] at z0 z1 z2; go_simp <;> with_reducible rfl)
        try simp only [List.getElem_toArray, List.getElem_cons_succ, List.getElem_cons_zero, Act.put, List.setIfInBounds_toArray, List.set_cons_zero, List.set_cons_succ]
        refine reg_take (i := 8) (v := ?_) rfl (by kernel_rfl) (by kernel_rfl) (by kernel_rfl) (fun _ _ _ h => h) (Or.inl ⟨by kernel_rfl, ?_⟩) hS ?_
        rotate_left
        · (intro w' hSw; have z0 := hSw.cell 0; have z1 := hSw.cell 1; have z2 := hSw.cell 2; simp only [List.getElem?_toArray, List.getElem?_cons_zero, List.getElem?_cons_succ] at z0 z1 z2; go_simp <;> with_reducible rfl)
        try simp only [List.getElem_toArray, List.getElem_cons_succ, List.getElem_cons_zero, Act.put, List.setIfInBounds_toArray, List.set_cons_zero, List.set_cons_succ]
        refine reg_take (i := 11) (v := ?_) rfl (by kernel_rfl) (by kernel_rfl) (by kernel_rfl) (fun _ _ _ h => h) (Or.inl ⟨by kernel_rfl, ?_⟩) hS ?_
        rotate_left
        · (intro w' hSw; have z0 := hSw.cell 0; have z1 := hSw.cell 1; have z2 := hSw.cell 2; simp only [List.getElem?_toArray, List.getElem?_cons_zero, List.getElem?_cons_succ] at z0 z1 z2; go_simp <;> with_reducible rfl)
        try simp only [List.getElem_toArray, List.getElem_cons_succ, List.getElem_cons_zero, Act.put, List.setIfInBounds_toArray, List.set_cons_zero, List.set_cons_succ]
        refine reg_take (i := 12) (v := ?_) rfl (by kernel_rfl) (by kernel_rfl) (by kernel_rfl) (fun _ _ _ h => h) (Or.inl ⟨by kernel_rfl, ?_⟩) hS ?_
        rotate_left
        · (intro w' hSw; have z0 := hSw.cell 0; have z1 := hSw.cell 1; have z2 := hSw.cell 2; simp only [List.getElem?_toArray, List.getElem?_cons_zero, List.getElem?_cons_succ] at z0 z1 z2; go_simp <;> with_reducible rfl)
        try simp only [List.getElem_toArray, List.getElem_cons_succ, List.getElem_cons_zero, Act.put, List.setIfInBounds_toArray, List.set_cons_zero, List.set_cons_succ]
        refine reg_take (i := 13) (v := ?_) rfl (by kernel_rfl) (by kernel_rfl) (by kernel_rfl) (fun _ _ _ h => h) (Or.inl ⟨by kernel_rfl, ?_⟩) hS ?_
        rotate_left
        · (intro w' hSw; have z0 := hSw.cell 0; have z1 := hSw.cell 1; have z2 := hSw.cell 2; simp only [List.getElem?_toArray, List.getElem?_cons_zero, List.getElem?_cons_succ] at z0 z1 z2; go_simp <;> with_reducible rfl)
        try simp only [List.getElem_toArray, List.getElem_cons_succ, List.getElem_cons_zero, Act.put, List.setIfInBounds_toArray, List.set_cons_zero, List.set_cons_succ]
        refine run3 (tb := eTb) (tr := eTr) (jb := eJb) (ja := eJa) (tm := eTm) (tv := eTv) (t := cT) (e := cE) (zz := cZ) (by_ := fun _ => 8) (lst := eLst) (v := v) (z := zOf p) (l := colRow f k) (y := y) ?hR _ ?hsz ?hm ?hv ?h1 ?hl ?hSS 3 ?hend 6 (fun _ => .z) _ rfl ⟨(fun h => by cases h), (fun h => by cases h)⟩ HW.out
        case hR =>
          refine ⟨eSix, cElem, fun c => ?_, fun c => ?_, by unfold eTm eTv eTb eTr; decide, eLb, eLr, fun s hok hs => ?_⟩
          · match c with
            | 0 => exact ⟨_, rfl, rfl, rfl, rfl⟩
            | 1 => exact ⟨_, rfl, rfl, rfl, rfl⟩
            | 2 => exact ⟨_, rfl, rfl, rfl, rfl⟩
          · match c with
            | 0 => exact ⟨_, rfl, rfl, rfl, rfl⟩
            | 1 => exact ⟨_, rfl, rfl, rfl, rfl⟩
            | 2 => exact ⟨_, rfl, rfl, rfl, rfl⟩
          · unfold left3 at hs
            unfold eLst cnx
            unfold okc at hok
            generalize s 0 = a0 at hs hok ⊢
            generalize s 1 = a1 at hs hok ⊢
            generalize s 2 = a2 at hs hok ⊢
            cases a0 <;> cases a1 <;> cases a2 <;> first | (exfalso; simp [Sg.left] at hs; done) | (exfalso; simp [Sg.b2] at hok; done) | (clear hs hok; simp only [Sg.b1, Sg.b2, Sg.nxc, eJb, eJa, List.cons_append, List.nil_append, if_true, Bool.false_eq_true, if_false]; kernel_rfl)
        case hsz => intro c; match c with | 0 => exact (show (30 : Nat) < 79 by decide) | 1 => exact (show (36 : Nat) < 79 by decide) | 2 => exact (show (41 : Nat) < 79 by decide)
        case hm => intro c; match c with | 0 => rfl | 1 => rfl | 2 => rfl
        case hv => intro c; match c with | 0 => rfl | 1 => rfl | 2 => rfl
        case h1 => intro c; match c with | 0 => rfl | 1 => rfl | 2 => rfl
        case hl => intro c; rw [colRow_len]; unfold maxLen; omega
        case hSS => exact fun s w hW => hW.yk
        case hend =>
          clear HW hS
          intro s w3 hl0 hW
          have hS : (fun w' => Blk w' y 30 #[.int .i64 p.t, .int .i64 p.v, .int .i64 p.s]) w3 := hW.yk
          have hl := hW.last HP.out hl0
          obtain ⟨q0, u0, h0⟩ := left0 hl0 0
          obtain ⟨q1, u1, h1⟩ := left0 hl0 1
          obtain ⟨q2, u2, h2⟩ := left0 hl0 2
          have e0 : u0 = (fun c => (s c).row (v c)) 0 := by simp only [h0]; rfl
          have e1 : u1 = (fun c => (s c).row (v c)) 1 := by simp only [h1]; rfl
          have e2 : u2 = (fun c => (s c).row (v c)) 2 := by simp only [h2]; rfl
          generalize (fun c => (s c).row (v c)) = v' at hl e0 e1 e2
          have HL := Lib.hid hl
          clear hl hW hl0
          unfold act3 eLst
          rw [h0, h1, h2, puts_r, puts_r, puts_r, e0, e1, e2]
          clear h0 h1 h2 e0 e1 e2
          simp only [Sg.b1, Sg.b2, eTb, eTr, Act.put, List.setIfInBounds_toArray, List.set_cons_zero, List.set_cons_succ]
          refine reg_take (i := 16) (v := ?_) rfl (by kernel_rfl) (by kernel_rfl) (by kernel_rfl) (fun _ _ _ h => h) (Or.inl ⟨by kernel_rfl, ?_⟩) hS ?_
          rotate_left
          · (intro w' hSw; go_simp <;> with_reducible rfl)
          try simp only [List.getElem_toArray, List.getElem_cons_succ, List.getElem_cons_zero, Act.put, List.setIfInBounds_toArray, List.set_cons_zero, List.set_cons_succ]
          refine reg_take (i := 17) (v := ?_) rfl (by kernel_rfl) (by kernel_rfl) (by kernel_rfl) (fun _ _ _ h => h) (Or.inl ⟨by kernel_rfl, ?_⟩) hS ?_
          rotate_left
          · (intro w' hSw; go_simp <;> with_reducible rfl)
          try simp only [List.getElem_toArray, List.getElem_cons_succ, List.getElem_cons_zero, Act.put, List.setIfInBounds_toArray, List.set_cons_zero, List.set_cons_succ]
          refine reg_take (i := 18) (v := ?_) rfl (by kernel_rfl) (by kernel_rfl) (by kernel_rfl) (fun _ _ _ h => h) (Or.inl ⟨by kernel_rfl, ?_⟩) hS ?_
          rotate_left
          · (intro w' hSw; go_simp <;> with_reducible rfl)
          try simp only [List.getElem_toArray, List.getElem_cons_succ, List.getElem_cons_zero, Act.put, List.setIfInBounds_toArray, List.set_cons_zero, List.set_cons_succ]
          refine wpAnyH_done (by kernel_rfl) ?_ _
          try simp only [List.getElem_toArray, List.getElem_cons_succ, List.getElem_cons_zero]
          try simp only [List.getElem_toArray, List.getElem_cons_succ, List.getElem_cons_zero, Act.put, List.setIfInBounds_toArray, List.set_cons_zero, List.set_cons_succ]
          clear hS
          go_wp2_with fail
          go_roundw
          case rel => exact ⟨k + 1, v', by omega, by go_num, rfl, rfl, rfl, HL.out⟩
          case measure => simp [intOf]; omega
      · obtain rfl : k = n := by omega
        obtain ⟨A0, c0, ev0, hc0, hs0⟩ := r3_sl hR 0
        obtain ⟨A1, c1, ev1, hc1, hs1⟩ := r3_sl hR 1
        obtain ⟨A2, c2, ev2, hc2, hs2⟩ := r3_sl hR 2
        rw [ev0, ev1, ev2]
        have HK := Lib.hid hR.keep
        have H1 := Lib.hid (hs1 _ (fun j hj => col_v hj))
        have H2 := Lib.hid (hs2 _ (fun j hj => col_s hj))
        have H0 := Lib.hid (hs0 _ (fun j hj => col_t hj))
        clear hs0 hs1 hs2 ev0 ev1 ev2 hR HS
        go_wp2_with fail
        refine (D.encode_any _ _ _ _ _ (tOf f k) H0.out (tOf_range HV.out) hn4).mono ?_
        rintro e w2 ⟨B0, d0, rfl, hr0, hk0⟩
        have P0 := Lib.hid (show PartIs wr w2 B0 d0 (partA f k 0) from ⟨hr0⟩)
        have H1 := Lib.hid (H1.out.keeps hk0 (fun _ _ h => h))
        have H2 := Lib.hid (H2.out.keeps hk0 (fun _ _ h => h))
        have HK := Lib.hid (HK.out.trans' hk0)
        rw [show (pack (D.encTo (tOf f k) k)) = partA f k 0 from rfl]
        clear hr0 hk0 H0
        go_wp2_with fail
        refine (X.xencode_any _ _ _ _ _ (vOf f k) H1.out (vOf_lt f k) hn4).mono ?_
        rintro e w3 ⟨B1, d1, rfl, hr1, hk1⟩
        have P0 := Lib.hid (P0.out.keeps hk1)
        have P1 := Lib.hid (show PartIs w2 w3 B1 d1 (partA f k 1) from ⟨hr1⟩)
        have H2 := Lib.hid (H2.out.keeps hk1 (fun _ _ h => h))
        have HK := Lib.hid (HK.out.trans' hk1)
        rw [show (pack (X.xencTo (vOf f k) k)) = partA f k 1 from rfl]
        clear hr1 hk1 H1
        go_wp2_with fail
        refine (D.encode_any _ _ _ _ _ (sOf f k) H2.out (sOf_range HV.out) hn4).mono ?_
        rintro e w4 ⟨B2, d2, rfl, hr2, hk2⟩
        have P0 := Lib.hid (P0.out.keeps hk2)
        have P1 := Lib.hid (P1.out.keeps hk2)
        have P2 := Lib.hid (show PartIs w3 w4 B2 d2 (partA f k 2) from ⟨hr2⟩)
        have HK := Lib.hid (HK.out.trans' hk2)
        rw [show (pack (D.encTo (sOf f k) k)) = partA f k 2 from rfl]
        clear hr2 hk2 H2
        go_wp2_with fail
        refine (V.vput_any _ none 0 0 [] _ rfl (Sl.nil _ _ _ _) (by omega) (by omega) ?_ ?_).mono ?_
        · first | omega | (rw [IntKind.wrap_u64]; omega)
        · first | omega | (rw [IntKind.wrap_u64]; omega)
        rintro e w5 ⟨v5, rfl, hi5, hb5⟩
        have hk5 := Keeps.of_below (S := fun _ => False) hb5
        have hi5' : InIs w4 w5 v5 (colUp f k 0) := by
          have e : ([] ++ V.vput ((k : Int)).toNat) = colUp f k 0 := by simp; rfl
          unfold InIs
          first | (rw [← e]; exact hi5) | (rw [IntKind.wrap_u64] at hi5; rw [← e]; have e2 : ((k : Int) % 18446744073709551616).toNat = ((k : Int)).toNat := by omega
                                           rw [e2] at hi5; exact hi5)
        have P0 := Lib.hid (P0.out.keeps hk5)
        have P1 := Lib.hid (P1.out.keeps hk5)
        have P2 := Lib.hid (P2.out.keeps hk5)
        have HK := Lib.hid (HK.out.trans' hk5)
        have HI := Lib.hid hi5'
        have HZ := Lib.hid hk5.size
        clear hi5 hi5' hb5 hk5
        have l0 : (partA f k 0).length ≤ 40000 := partA_len f k 0 hn4
        have l1 : (partA f k 1).length ≤ 40000 := partA_len f k 1 hn4
        have l2 : (partA f k 2).length ≤ 40000 := partA_len f k 2 hn4
        have HL := Lib.hid (And.intro l0 (And.intro l1 l2))
        clear l0 l1 l2
        go_wp2_with fail
        go_loopw [15, 67] (fun v15 i wr => ∃ j : Nat, j ≤ 3 ∧ i = .int .i64 j ∧ InIs w4 wr v15 (colUp f k j) ∧ Keeps (fun _ => False) w5 wr) (fun _ i _ => 3 - (intOf i).toNat)
        case atStart => exact ⟨0, Nat.zero_le _, rfl, HI.out, Keeps.refl _ _⟩
        case round =>
          obtain ⟨j, hj, rfl, hI, hkk⟩ := hrel
          obtain ⟨A5, c5, rfl, hc5, hs5⟩ := hI.form
          have hl5 := colUp_len f k hn4 j
          have HI := Lib.hid (And.intro hs5 (And.intro hkk hl5))
          clear hI hs5 hkk hl5
          have h4 : j = 0 ∨ j = 1 ∨ j = 2 ∨ j = 3 := by omega
          rcases h4 with rfl | rfl | rfl | rfl
          ·
            rw [show ((0 : Nat) : Int) = 0 from rfl]
            have hcv := conv_sl (P := Tryz.prog) (c := d0) 25 5 9 Tryz.underlying25 Tryz.underlying5 Tryz.underlying9 (bs := partA f k 0) rfl (P0.out.keeps HI.out.2.1).sl
            obtain ⟨i0, i1, i2⟩ := index3 B0 B1 B2 (partA f k 0).length (partA f k 1).length (partA f k 2).length d0 d1 d2 wr
            go_wp2_with fail
            clear hcv i0 i1 i2
            refine (V.putText_any _ _ _ _ (colUp f k 0) _ rfl HI.out.1 hc5 ?_ ?_).mono ?_
            · have := HI.out.2.2; omega
            · rw [strB_size]; have := HL.out; omega
            rintro e w6 ⟨v6, rfl, hi6, hb6⟩
            have hk6 := Keeps.of_below (S := fun _ => False) hb6
            rw [col_up f k 0] at hi6
            have HJ := Lib.hid (And.intro (show InIs w4 w6 v6 (colUp f k (0 + 1)) from own_base hi6 (Nat.le_trans (by have := HI.out.2.1.size; have := HZ.out; omega) (Nat.le_refl _))) (HI.out.2.1.trans' hk6))
            clear hi6 hb6 hk6
            go_wp2_with fail
            go_roundw
            case rel => exact ⟨0 + 1, by omega, by go_num, HJ.out.1, HJ.out.2⟩
            case measure => simp [intOf]
          ·
            rw [show ((1 : Nat) : Int) = 1 from rfl]
            have hcv := conv_sl (P := Tryz.prog) (c := d1) 25 5 9 Tryz.underlying25 Tryz.underlying5 Tryz.underlying9 (bs := partA f k 1) rfl (P1.out.keeps HI.out.2.1).sl
            obtain ⟨i0, i1, i2⟩ := index3 B0 B1 B2 (partA f k 0).length (partA f k 1).length (partA f k 2).length d0 d1 d2 wr
            go_wp2_with fail
            clear hcv i0 i1 i2
            refine (V.putText_any _ _ _ _ (colUp f k 1) _ rfl HI.out.1 hc5 ?_ ?_).mono ?_
            · have := HI.out.2.2; omega
            · rw [strB_size]; have := HL.out; omega
            rintro e w6 ⟨v6, rfl, hi6, hb6⟩
            have hk6 := Keeps.of_below (S := fun _ => False) hb6
            rw [col_up f k 1] at hi6
            have HJ := Lib.hid (And.intro (show InIs w4 w6 v6 (colUp f k (1 + 1)) from own_base hi6 (Nat.le_trans (by have := HI.out.2.1.size; have := HZ.out; omega) (Nat.le_refl _))) (HI.out.2.1.trans' hk6))
            clear hi6 hb6 hk6
            go_wp2_with fail
            go_roundw
            case rel => exact ⟨1 + 1, by omega, by go_num, HJ.out.1, HJ.out.2⟩
            case measure => simp [intOf]
          ·
            rw [show ((2 : Nat) : Int) = 2 from rfl]
            have hcv := conv_sl (P := Tryz.prog) (c := d2) 25 5 9 Tryz.underlying25 Tryz.underlying5 Tryz.underlying9 (bs := partA f k 2) rfl (P2.out.keeps HI.out.2.1).sl
            obtain ⟨i0, i1, i2⟩ := index3 B0 B1 B2 (partA f k 0).length (partA f k 1).length (partA f k 2).length d0 d1 d2 wr
            go_wp2_with fail
            clear hcv i0 i1 i2
            refine (V.putText_any _ _ _ _ (colUp f k 2) _ rfl HI.out.1 hc5 ?_ ?_).mono ?_
            · have := HI.out.2.2; omega
            · rw [strB_size]; have := HL.out; omega
            rintro e w6 ⟨v6, rfl, hi6, hb6⟩
            have hk6 := Keeps.of_below (S := fun _ => False) hb6
            rw [col_up f k 2] at hi6
            have HJ := Lib.hid (And.intro (show InIs w4 w6 v6 (colUp f k (2 + 1)) from own_base hi6 (Nat.le_trans (by have := HI.out.2.1.size; have := HZ.out; omega) (Nat.le_refl _))) (HI.out.2.1.trans' hk6))
            clear hi6 hb6 hk6
            go_wp2_with fail
            go_roundw
            case rel => exact ⟨2 + 1, by omega, by go_num, HJ.out.1, HJ.out.2⟩
            case measure => simp [intOf]
          · rw [show ((3 : Nat) : Int) = 3 from rfl]
            go_wp2_with fail
            refine (F.seal_ok _ 3 _ _ _ _ (colUp f k 3) rfl HI.out.1 (colUp_byte f k 3) (by omega) (by have := HI.out.2.2; omega)).mono ?_
            intro e w6 hp
            obtain ⟨A6, c6, rfl, ho6, hk6⟩ := hp
            have HP := Lib.hid (And.intro ho6 hk6)
            clear ho6 hk6
            go_wp2_with fail
            go_ret2
            exact col_good HV.out (HK.out.trans' HI.out.2.1) ⟨A6, c6, rfl, HP.out.1, HP.out.2⟩
end Go.Proofs.YtopbbicjbjmdnaaGreatDoor
namespace Go.Proofs.YtopbbicjbjmdnaaGreatDoor
open Go.RowKit Go.ChangeShapes Go.WideShapes Go.Deep
set_option maxRecDepth 100000
/-- A slice of len points. -/
structure IsPoints (w : World) (a : Option Addr) (len cap : Nat) (f : Nat → Pt) : Prop where
  le : len ≤ cap
  cap_le : cap ≤ maxLen
  ok : ∀ j, j < len → PtOk (f j)
  sl : SlP w (fun x => x < w.heap.size) a len f
theorem points_cells : Tryz.prog.cellsOf 30 = 3 := by kernel_rfl
theorem open_points {H : Type} {enc : TypeId × Value → H} {w : World} {fuel : Nat} {a : Option Addr} {len cap : Nat} {x : DataW H × List MemPlace}
    (h : DataW.trod enc Tryz.prog w 0 (fun _ => true) true fuel 31 (Value.cells (.slice a len cap)).toList = some x) : ∃ f, IsPoints w a len cap f := by
  rcases open_slice Tryz.underlying31 h with ⟨hcs, _⟩ | ⟨ad, l, c, m, n, D, Pl, hcs, -, hl, hm, hmm, -, hi⟩
  · simp [Value.cells] at hcs
    obtain ⟨rfl, rfl, rfl⟩ := hcs
    exact ⟨fun _ => ⟨0, 0, 0⟩, Nat.le_refl _, Nat.zero_le _, fun j hj => by omega, fun hj => by omega⟩
  · simp [Value.cells] at hcs
    obtain ⟨rfl, rfl, rfl⟩ := hcs
    have hmc : m = cap := by simpa using hmm
    have hone : ∀ i, i < cap → ∃ p : Pt, w.cell? ((ad.add (i * 3)).add 0) = some (.int .i64 p.t) ∧ w.cell? ((ad.add (i * 3)).add 1) = some (.int .i64 p.v) ∧ w.cell? ((ad.add (i * 3)).add 2) = some (.int .i64 p.s) ∧ PtOk p := by
      intro i hic
      obtain ⟨cs', hc, ht'⟩ := hi i (by omega)
      rw [points_cells] at hc
      obtain ⟨ys, n', hn', hy, hlen, hyl, hf⟩ := DataW.trod_struct Tryz.underlying30 ht'
      obtain ⟨_, hcl, hat⟩ := World.cells?_some hc
      match cs', hcl with
      | [c0, c1, c2], _ =>
        match ys, hyl with
        | [y0, y1, y2], _ =>
          have hC : Tryz.prog.cellsOf 3 = 1 := by kernel_rfl
          have g0 := hf 0 _ rfl
          have g1 := hf 1 _ rfl
          have g2 := hf 2 _ rfl
          simp [hC] at g0
          simp [hC] at g1
          simp [hC] at g2
          obtain ⟨t, e0, -, w0⟩ := DataW.trod_int Tryz.underlying3 g0
          obtain ⟨v, e1, -, w1⟩ := DataW.trod_int Tryz.underlying3 g1
          obtain ⟨s, e2, -, w2⟩ := DataW.trod_int Tryz.underlying3 g2
          simp at e0 e1 e2
          subst e0 e1 e2
          exact ⟨⟨t, v, s⟩, by simpa using hat 0 (by omega), by simpa using hat 1 (by omega), by simpa using hat 2 (by omega), ⟨wf_i64 w0, wf_i64 w1, wf_i64 w2⟩⟩
    rcases Nat.eq_zero_or_pos len with h0 | h0
    · exact ⟨fun _ => ⟨0, 0, 0⟩, hl, hm, fun j hj => by omega, fun hj => by omega⟩
    · obtain ⟨b, off, spot⟩ := ad
      have hspot : spot = none := by
        obtain ⟨p, hv, -⟩ := hone 0 (by omega)
        simpa [Addr.add] using World.cell?_spot hv
      subst hspot
      have hadd : ∀ i j, ((⟨b, off, none⟩ : Addr).add i).add j = ⟨b, off + i + j, none⟩ := fun i j => by
        have h1 : (⟨b, off, none⟩ : Addr).add i = ⟨b, off + i, none⟩ := by unfold Addr.add; split <;> simp_all
        rw [h1]
        unfold Addr.add; split <;> simp_all
      have hone' : ∀ i, ∃ p : Pt, i < cap → w.cell? ⟨b, off + i * 3, none⟩ = some (.int .i64 p.t) ∧ w.cell? ⟨b, off + i * 3 + 1, none⟩ = some (.int .i64 p.v) ∧ w.cell? ⟨b, off + i * 3 + 2, none⟩ = some (.int .i64 p.s) ∧ PtOk p := by
        intro i
        by_cases hic : i < cap
        · obtain ⟨p, h1, h2, h3, h4⟩ := hone i hic
          rw [hadd] at h1 h2 h3
          exact ⟨p, fun _ => ⟨h1, h2, h3, h4⟩⟩
        · exact ⟨⟨0, 0, 0⟩, fun h => absurd h hic⟩
      have hsp := fun i => Classical.choose_spec (hone' i)
      refine ⟨fun i => Classical.choose (hone' i), hl, hm, fun j hj => (hsp j (by omega)).2.2.2, fun _ => ⟨b, off, rfl, World.block_lt_of_cell? w _ (hsp 0 (by omega)).1, fun j hj => ?_⟩⟩
      obtain ⟨h1, h2, h3, -⟩ := hsp j (by omega)
      exact ⟨h1, h2, h3⟩
theorem IsPoints.cut {w : World} {a : Option Addr} {len cap : Nat} {f : Nat → Pt} (h : IsPoints w a len cap f) (m : Nat) (hm : m ≤ len) :
    ∃ g : Nat → Pt, (∀ j, PtOk (g j)) ∧ SlP w (fun x => x < w.heap.size) a m g := by
  refine ⟨fun j => if j < m then f j else ⟨0, 0, 0⟩, fun j => ?_, (h.sl.take hm).congr fun j hj => (if_pos hj).symm⟩
  show PtOk (if j < m then f j else ⟨0, 0, 0⟩)
  by_cases hj : j < m
  · rw [if_pos hj]; exact h.ok j (by omega)
  · rw [if_neg hj]; exact ⟨by unfold I64; simp, by unfold I64; simp, by unfold I64; simp⟩
end Go.Proofs.YtopbbicjbjmdnaaGreatDoor
namespace Go.Proofs.YtopbbicjbjmdnaaGreatDoor
open Go.RowKit Go.Maps
set_option maxRecDepth 100000
set_option linter.unusedVariables false
set_option linter.unusedSimpArgs false
/-- Two slices of the call's own, each in a variable of one cell. -/
structure TwoIs (w0 : World) (xo xf : Nat) (vo vf : Value) (O F : List Nat) (w : World) : Prop where
  own : Own w0 [(xo, 25, #[vo]), (xf, 25, #[vf])] w
  o : w.ownsRow w0.heap.size 5 1 vo O.length (O.map V.byteV)
  f : w.ownsRow w0.heap.size 5 1 vf F.length (F.map V.byteV)
  dis : ∀ g, vo.ownBlock = some g → vf.ownBlock ≠ some g
theorem TwoIs.call {w0 w w' : World} {xo xf : Nat} {vo vf : Value} {O F : List Nat} (h : TwoIs w0 xo xf vo vf O F w) (hb : Below w.heap.size w w') : TwoIs w0 xo xf vo vf O F w' :=
  ⟨h.own.call hb, V.own_later h.o hb, V.own_later h.f hb, h.dis⟩
theorem row_set {w : World} {B n g : Nat} {v u v0 : Value} {xs : List Value} (h : w.ownsRow B 5 1 v n xs) (hg : Blk w g 25 #[v0]) : (w.setCell ⟨g, 0, none⟩ u).ownsRow B 5 1 v n xs :=
  h.kept (grown_set w g 0 u) (.inr (own_ne h hg (by decide)))
/-- The foot is a new one. -/
theorem TwoIs.foot {w0 w w' : World} {xo xf : Nat} {vo vf v' : Value} {O F F' : List Nat} (h : TwoIs w0 xo xf vo vf O F w) (hb : Below w.heap.size w w') (ho : w'.ownsRow w.heap.size 5 1 v' F'.length (F'.map V.byteV)) :
    TwoIs w0 xo xf vo v' O F' (w'.setCell ⟨xf, 0, none⟩ v') := by
  have h' := h.call hb
  have hx := h'.own.get 1 rfl
  refine ⟨h'.own.set 1 0 rfl v', row_set h'.o hx, row_set (own_base ho h.own.bel.size) hx, fun g hg hg' => ?_⟩
  have h1 := (h.o.lt g hg).2
  have h2 := (ho.lt g hg').1
  omega
theorem TwoIs.outOwn {w0 w w' : World} {xo xf : Nat} {vo vf : Value} {O F : List Nat} (h : TwoIs w0 xo xf vo vf O F w) (hg : w.grownBy w' vo.ownBlock) : Own w0 [(xo, 25, #[vo]), (xf, 25, #[vf])] w' := by
  have n1 := own_ne h.o (h.own.get 0 rfl) (by decide)
  have n2 := own_ne h.o (h.own.get 1 rfl) (by decide)
  refine ⟨V.lat_grown h.own.bel h.o hg, fun b hb => ⟨(h.own.blk b hb).1, ?_⟩, h.own.nd⟩
  show w'.heap[b.1]? = _
  have hl := h.own.lt b hb
  have hne : some b.1 ≠ vo.ownBlock := by
    rcases List.mem_cons.1 hb with rfl | hb
    · exact fun e => n1 e.symm
    · obtain rfl := List.mem_singleton.1 hb
      exact fun e => n2 e.symm
  rw [hg.block b.1 hl hne]
  exact (h.own.blk b hb).2
/-- The bytes have grown. -/
theorem TwoIs.out {w0 w w' : World} {xo xf : Nat} {vo vf v' : Value} {O F O' : List Nat} (h : TwoIs w0 xo xf vo vf O F w) (ho : w'.ownsRow w0.heap.size 5 1 v' O'.length (O'.map V.byteV)) (hg : w.grownBy w' vo.ownBlock) (hx : v'.ownBlock = vo.ownBlock ∨ v'.ownBlock = some w.heap.size) :
    TwoIs w0 xo xf v' vf O' F (w'.setCell ⟨xo, 0, none⟩ v') := by
  have hown := h.outOwn hg
  have hf' : w'.ownsRow w0.heap.size 5 1 vf F.length (F.map V.byteV) := h.f.kept hg (by
    cases e : vf.ownBlock with
    | none => exact .inl rfl
    | some g => exact .inr fun e' => h.dis g e'.symm e)
  have hxo := hown.get 0 rfl
  refine ⟨hown.set 0 0 rfl v', row_set ho hxo, row_set hf' hxo, fun g hg1 hg2 => ?_⟩
  rcases hx with hx | hx
  · exact h.dis g (by rw [← hx]; exact hg1) hg2
  · rw [hx] at hg1
    injection hg1 with hg1
    have := (h.f.lt g hg2).2
    omega
/-- What the foot tells of a block. -/
def footB (f : Nat → Pt) (n : Nat) : List Nat := V.vput (colL f n).1.length ++ V.vput (zig (f 0).t) ++ V.vput (zig (f (n - 1)).t) ++ V.vput n
def SCloPost (w0 : World) (xo xf : Nat) (O FT : List Nat) (f : Nat → Pt) (n : Nat) (e : Ending) (w' : World) : Prop :=
  e = .returned (.tuple #[]) ∧ ∃ vo vf, TwoIs w0 xo xf vo vf (O ++ (colL f n).1) (FT ++ footB f n) w'
set_option maxHeartbeats 8000000 in
theorem sclo_any (w0 w : World) (xo xf : Nat) (vo vf : Value) (O FT : List Nat) (A : Option Addr) (n c : Nat) (f : Nat → Pt) (h : TwoIs w0 xo xf vo vf O FT w) (hsl : SlP w (fun q => q < w0.heap.size) A n f) (hn : 0 < n) (hn' : n ≤ 4096) (hc : n ≤ c) (hO : O.length ≤ 1073741824) (hF : FT.length ≤ 1073741824)
    (hB : (colL f n).1.length ≤ 1073741824) (hok : ∀ j, PtOk (f j)) :
    Calls Tryz.prog 18 #[.slice A n c, .pointer (some ⟨xo, 0, none⟩), .pointer (some ⟨xf, 0, none⟩)] w (SCloPost w0 xo xf O FT f n) := by
  obtain ⟨b, off, rfl, hbl, hcell⟩ := hsl hn
  obtain ⟨m, rfl⟩ : ∃ m, n = m + 1 := ⟨n - 1, by omega⟩
  have hpt : ∀ wx, Below w0.heap.size w0 wx → ∀ j, j < m + 1 → wx.cell? ⟨b, off + j * 3, none⟩ = some (.int .i64 (f j).t) := fun wx hx j hj => (hx.cell (by exact hbl)).trans ((h.own.bel.cell (by exact hbl)).symm.trans (hcell j hj).1)
  have H0 := Lib.hid (And.intro h (And.intro hsl (And.intro hpt hok)))
  clear h hsl hcell hok hpt
  go_enter Tryz.func18, Tryz.ntmps18
  go_wp2_with fail
  refine (cencode_any _ (m + 1) c f _ _ H0.out.2.1 (by omega)).mono ?_
  rintro e w1 ⟨A1, c1, rfl, ho1, hk1⟩
  have h1 := H0.out.1.call hk1.to_below
  obtain ⟨B, hBe⟩ : ∃ B, B = (colL f (m + 1)).1 := ⟨_, rfl⟩
  obtain ⟨er, hee⟩ : ∃ er, er = (colL f (m + 1)).2 := ⟨_, rfl⟩
  have hB' := hB
  rw [← hBe] at ho1 hB' ⊢
  rw [← hee]
  have H1 := Lib.hid (And.intro h1 (And.intro (V.ow_sl ho1) (And.intro hBe hk1.to_below)))
  clear h1 ho1 hk1 hBe hee hB
  have zo := H1.out.1.own.cell 0 0 rfl rfl
  obtain ⟨nb, hnb⟩ : ∃ nb, nb = B.length := ⟨_, rfl⟩
  rw [← hnb]
  have HNB := Lib.hid hnb
  clear hnb
  go_wp2_with (at_builtin; refine wpList_append_sl (f := byteC B) (D := fun k => k < w1.heap.size) (base := w0.heap.size) (n := O.length) (xs := O.map V.byteV) V.byteElem rfl (.tmp 11) (.tmp 12) rfl rfl rfl ?hown ?hsl ?h1 ?h63 ?hby ?hbase ?_)
  case hown => exact H1.out.1.o
  case hsl => rw [HNB.out]; exact H1.out.2.1
  case h1 => intro j _; rfl
  case h63 => rw [HNB.out]; unfold maxLen; omega
  case hby => rw [HNB.out]; omega
  case hbase => exact H1.out.1.own.bel.size
  intro v2 w2 ho2 hg2 hx2
  have ho2' : w2.ownsRow w0.heap.size 5 1 v2 (O ++ B).length ((O ++ B).map V.byteV) := by
    have := ho2
    rw [HNB.out, ← V.range_bytes rfl] at this
    rw [List.length_append, List.map_append]
    exact this
  obtain ⟨A2, c2, hv2, -, -⟩ := own_form ho2'
  subst hv2
  obtain ⟨lo, hlo⟩ : ∃ lo, lo = (O ++ B).length := ⟨_, rfl⟩
  rw [← hlo] at ho2' ⊢
  have hW := H1.out.1.outOwn hg2
  have z0 := hW.cell 0 0 rfl rfl
  have zf := hW.free 0 rfl
  have h2 := H1.out.1.out (O' := O ++ B) (by rw [← hlo]; exact ho2') hg2 (by rw [← hlo] at hx2; exact hx2)
  have H2 := Lib.hid (And.intro h2 hlo)
  clear ho2 hg2 hx2 ho2' hW zo h2 hlo
  go_upto_region 2 with (fail)
  clear z0 zf
  refine wp_gen (TwoIs w0 xo xf (.slice A2 lo c2) vf (O ++ B) FT) H2.out.1 ?_
  intro w3 h3
  obtain ⟨Af, cf, hvf, hcf, -⟩ := own_form h3.f
  subst hvf
  obtain ⟨lf, hlf⟩ : ∃ lf, lf = FT.length := ⟨_, rfl⟩
  rw [← hlf] at hcf hF
  have zc := h3.own.cell 1 0 rfl rfl
  rw [← hlf] at zc
  have ku : IntKind.u64.wrap (nb : Int) = (nb : Int) := by rw [IntKind.wrap_u64, HNB.out]; omega
  have H3 := Lib.hid (And.intro h3 hlf.symm)
  clear h3 hlf
  go_wp2_with fail
  refine (V.vput_any _ Af lf cf FT (nb : Int) H3.out.2 (by have := V.ow_sl H3.out.1.f; rw [H3.out.2] at this; exact this) hcf (by omega) (by omega) (by rw [HNB.out]; omega)).mono ?_
  rintro e w4 ⟨v4, rfl, ho4, hb4⟩
  rw [Int.toNat_natCast] at ho4
  obtain ⟨F4, hF4⟩ : ∃ F4, F4 = FT ++ V.vput nb := ⟨_, rfl⟩
  rw [← hF4] at ho4
  have hl4 : F4.length ≤ lf + 10 := by
    have := V.vput_len10 (u := nb) (by rw [HNB.out]; omega)
    rw [hF4, List.length_append, H3.out.2]; omega
  obtain ⟨A4, c4, hv4, hc4, -⟩ := own_form ho4
  subst hv4
  have hW := H3.out.1.own.call hb4
  have z0 := hW.cell 1 0 rfl rfl
  rw [H3.out.2] at z0
  have zf := hW.free 1 rfl
  have H4 := Lib.hid (And.intro (H3.out.1.foot hb4 ho4) hF4)
  clear ho4 hb4 hW zc ku hF4
  go_upto_region 3 with (fail)
  clear z0 zf
  refine wp_gen (TwoIs w0 xo xf (.slice A2 lo c2) (.slice A4 F4.length c4) (O ++ B) F4) H4.out.1 ?_
  intro w5 h5
  obtain ⟨l4, hl4e⟩ : ∃ l, l = F4.length := ⟨_, rfl⟩
  rw [← hl4e] at h5 hl4 hc4 ⊢
  have p0 := H0.out.2.2.1 w5 h5.own.bel 0 (by omega)
  have pm := H0.out.2.2.1 w5 h5.own.bel m (by omega)
  have H5 := Lib.hid (And.intro h5 (And.intro hl4e.symm (And.intro p0 pm)))
  clear h5 hl4e p0 pm
  have km : (m : Int) < (m : Int) + 1 := by omega
  have k0 : (0 : Int) < (m : Int) + 1 := by omega
  have kw : IntKind.i64.wrap (m : Int) = (m : Int) := IntWalk.i64_in _ (by omega)
  obtain ⟨t0, ht0⟩ : ∃ z, z = (f 0).t := ⟨_, rfl⟩
  obtain ⟨tm, htm⟩ : ∃ z, z = (f m).t := ⟨_, rfl⟩
  have HT := Lib.hid (And.intro ht0 htm)
  clear ht0 htm
  have hd := H5.out.1.call (Below.refl w5.heap.size w5).drew
  have hS : (fun w' => ∃ vf FF, TwoIs w0 xo xf (.slice A2 lo c2) vf (O ++ B) FF w') (w5.drew) := ⟨_, _, hd⟩
  refine reg_start (fun w' => ∃ vf FF, TwoIs w0 xo xf (.slice A2 lo c2) vf (O ++ B) FF w') (by kernel_rfl) hS ?_
  generalize w5.drew = wd at hS hd ⊢
  have HD := Lib.hid hd
  clear hd
  refine reg_take (i := 1) (v := ?_) rfl (by kernel_rfl) (by kernel_rfl) (by kernel_rfl) (fun _ _ _ h => h) (Or.inl ⟨by kernel_rfl, ?_⟩) hS ?_
  rotate_left
  · (intro w' hSw; go_simp <;> with_reducible rfl)
  try simp only [List.getElem_toArray, List.getElem_cons_succ, List.getElem_cons_zero, Act.put, List.setIfInBounds_toArray, List.set_cons_zero, List.set_cons_succ]
  refine reg_take (i := 2) (v := ?_) rfl (by kernel_rfl) (by kernel_rfl) (by kernel_rfl) (fun _ _ _ h => h) (Or.inl ⟨by kernel_rfl, ?_⟩) hS ?_
  rotate_left
  · (intro w' hSw; go_simp <;> with_reducible rfl)
  try simp only [List.getElem_toArray, List.getElem_cons_succ, List.getElem_cons_zero, Act.put, List.setIfInBounds_toArray, List.set_cons_zero, List.set_cons_succ]
  refine reg_take (i := 3) (v := ?_) rfl (by kernel_rfl) (by kernel_rfl) (by kernel_rfl) (fun _ _ _ h => h) (Or.inl ⟨by kernel_rfl, ?_⟩) hS ?_
  rotate_left
  · (intro w' hSw; go_simp <;> with_reducible rfl)
  try simp only [List.getElem_toArray, List.getElem_cons_succ, List.getElem_cons_zero, Act.put, List.setIfInBounds_toArray, List.set_cons_zero, List.set_cons_succ]
  refine reg_take (i := 4) (v := ?_) rfl (by kernel_rfl) (by kernel_rfl) (by kernel_rfl) (fun _ _ _ h => h) (Or.inl ⟨by kernel_rfl, ?_⟩) hS ?_
  rotate_left
  · (intro w' hSw; have u0 := (by obtain ⟨_, _, hq⟩ := hSw; have := H0.out.2.2.1 w' hq.own.bel 0 (by omega); rw [← HT.out.1] at this; simpa using this : w'.cell? ⟨b, off, none⟩ = some (.int .i64 t0)); go_simp <;> with_reducible rfl)
  try simp only [List.getElem_toArray, List.getElem_cons_succ, List.getElem_cons_zero, Act.put, List.setIfInBounds_toArray, List.set_cons_zero, List.set_cons_succ]
  refine reg_take (i := 6) (v := ?_) rfl (by kernel_rfl) (by kernel_rfl) (by kernel_rfl) (fun _ _ _ h => h) (Or.inl ⟨by kernel_rfl, ?_⟩) hS ?_
  rotate_left
  · (intro w' hSw; go_simp <;> with_reducible rfl)
  try simp only [List.getElem_toArray, List.getElem_cons_succ, List.getElem_cons_zero, Act.put, List.setIfInBounds_toArray, List.set_cons_zero, List.set_cons_succ]
  refine reg_take (i := 7) (v := ?_) rfl (by kernel_rfl) (by kernel_rfl) (by kernel_rfl) (fun _ _ _ h => h) (Or.inl ⟨by kernel_rfl, ?_⟩) hS ?_
  rotate_left
  · (intro w' hSw; go_simp <;> with_reducible rfl)
  try simp only [List.getElem_toArray, List.getElem_cons_succ, List.getElem_cons_zero, Act.put, List.setIfInBounds_toArray, List.set_cons_zero, List.set_cons_succ]
  refine reg_take (i := 8) (v := ?_) rfl (by kernel_rfl) (by kernel_rfl) (by kernel_rfl) (fun _ _ _ h => h) (Or.inl ⟨by kernel_rfl, ?_⟩) hS ?_
  rotate_left
  · (intro w' hSw; go_simp <;> with_reducible rfl)
  try simp only [List.getElem_toArray, List.getElem_cons_succ, List.getElem_cons_zero, Act.put, List.setIfInBounds_toArray, List.set_cons_zero, List.set_cons_succ]
  refine reg_take (i := 9) (v := ?_) rfl (by kernel_rfl) (by kernel_rfl) (by kernel_rfl) (fun _ _ _ h => h) (Or.inl ⟨by kernel_rfl, ?_⟩) hS ?_
  rotate_left
  · (intro w' hSw; go_simp <;> with_reducible rfl)
  try simp only [List.getElem_toArray, List.getElem_cons_succ, List.getElem_cons_zero, Act.put, List.setIfInBounds_toArray, List.set_cons_zero, List.set_cons_succ]
  refine reg_take (i := 10) (v := ?_) rfl (by kernel_rfl) (by kernel_rfl) (by kernel_rfl) (fun _ _ _ h => h) (Or.inl ⟨by kernel_rfl, ?_⟩) hS ?_
  rotate_left
  · (intro w' hSw; go_simp <;> with_reducible rfl)
  try simp only [List.getElem_toArray, List.getElem_cons_succ, List.getElem_cons_zero, Act.put, List.setIfInBounds_toArray, List.set_cons_zero, List.set_cons_succ]
  refine reg_take (i := 11) (v := ?_) rfl (by kernel_rfl) (by kernel_rfl) (by kernel_rfl) (fun _ _ _ h => h) (Or.inl ⟨by kernel_rfl, ?_⟩) hS ?_
  rotate_left
  · (intro w' hSw; go_simp <;> with_reducible rfl)
  try simp only [List.getElem_toArray, List.getElem_cons_succ, List.getElem_cons_zero, Act.put, List.setIfInBounds_toArray, List.set_cons_zero, List.set_cons_succ]
  refine reg_take (i := 12) (v := ?_) rfl (by kernel_rfl) (by kernel_rfl) (by kernel_rfl) (fun _ _ _ h => h) (Or.inl ⟨by kernel_rfl, ?_⟩) hS ?_
  rotate_left
  · (intro w' hSw; have u0 := (by obtain ⟨_, _, hq⟩ := hSw; have := H0.out.2.2.1 w' hq.own.bel m (by omega); rw [← HT.out.2] at this; exact this : w'.cell? ⟨b, off + m * 3, none⟩ = some (.int .i64 tm)); go_simp <;> with_reducible rfl)
  try simp only [List.getElem_toArray, List.getElem_cons_succ, List.getElem_cons_zero, Act.put, List.setIfInBounds_toArray, List.set_cons_zero, List.set_cons_succ]
  have u0 := HD.out.own.cell 1 0 rfl rfl
  refine reg_call (i := 0) rfl (by kernel_rfl) (fun K hK => ?_)
  have HK := Lib.hid hK
  clear hK
  go_simp
  go_wp2_with fail
  refine HK.out.to (fun w' => ∃ vf FF, TwoIs w0 xo xf (.slice A2 lo c2) vf (O ++ B) FF w') (fun _ h => h) (⟨_, _, HD.out⟩) ?_
  clear HK hS
  have hS : (fun w' => ∃ vf FF, TwoIs w0 xo xf (.slice A2 lo c2) vf (O ++ B) FF w') (wd) := ⟨_, _, HD.out⟩
  try simp only [List.getElem_toArray, List.getElem_cons_succ, List.getElem_cons_zero, Act.put, List.setIfInBounds_toArray, List.set_cons_zero, List.set_cons_succ]
  clear u0
  refine reg_call (i := 5) rfl (by kernel_rfl) (fun K hK => ?_)
  have HK := Lib.hid hK
  clear hK
  go_simp
  refine (V.putInt_any _ A4 l4 c4 F4 t0 H5.out.2.1 (by have := HD.out.f; rw [H5.out.2.1] at this; exact V.ow_sl this) hc4 (by omega) (by rw [HT.out.1]; exact (H0.out.2.2.2 0).1.1) (by rw [HT.out.1]; exact (H0.out.2.2.2 0).1.2)).mono ?_
  rintro e w6 ⟨v6, rfl, ho6, hb6⟩
  obtain ⟨F6, hF6⟩ : ∃ F6, F6 = F4 ++ V.vput (zig t0) := ⟨_, rfl⟩
  rw [← hF6] at ho6
  have hl6 : F6.length ≤ lf + 20 := by
    have := V.vput_len10 (u := zig t0) (zig_lt (by rw [HT.out.1]; exact (H0.out.2.2.2 0).1.1) (by rw [HT.out.1]; exact (H0.out.2.2.2 0).1.2))
    rw [hF6, List.length_append, H5.out.2.1]; omega
  obtain ⟨l6, hl6e⟩ : ∃ l, l = F6.length := ⟨_, rfl⟩
  rw [← hl6e] at ho6 hl6
  obtain ⟨A6, c6, hv6, hc6, -⟩ := own_form ho6
  subst hv6
  have H6 := Lib.hid (And.intro (HD.out.call hb6) (And.intro hF6 (And.intro hl6e.symm (V.ow_sl ho6))))
  clear ho6 hb6 hF6 hl6e
  go_wp2_with fail
  refine HK.out.to (fun w' => ∃ vf FF, TwoIs w0 xo xf (.slice A2 lo c2) vf (O ++ B) FF w') (fun _ h => h) (⟨_, _, H6.out.1⟩) ?_
  clear HK hS
  have hS : (fun w' => ∃ vf FF, TwoIs w0 xo xf (.slice A2 lo c2) vf (O ++ B) FF w') (w6) := ⟨_, _, H6.out.1⟩
  try simp only [List.getElem_toArray, List.getElem_cons_succ, List.getElem_cons_zero, Act.put, List.setIfInBounds_toArray, List.set_cons_zero, List.set_cons_succ]
  refine reg_call (i := 13) rfl (by kernel_rfl) (fun K hK => ?_)
  have HK := Lib.hid hK
  clear hK
  go_simp
  refine (V.putInt_any _ A6 l6 c6 F6 tm H6.out.2.2.1 H6.out.2.2.2 hc6 (by omega) (by rw [HT.out.2]; exact (H0.out.2.2.2 m).1.1) (by rw [HT.out.2]; exact (H0.out.2.2.2 m).1.2)).mono ?_
  rintro e w7 ⟨v7, rfl, ho7, hb7⟩
  obtain ⟨F7, hF7⟩ : ∃ F7, F7 = F6 ++ V.vput (zig tm) := ⟨_, rfl⟩
  rw [← hF7] at ho7
  have hl7 : F7.length ≤ lf + 30 := by
    have := V.vput_len10 (u := zig tm) (zig_lt (by rw [HT.out.2]; exact (H0.out.2.2.2 m).1.1) (by rw [HT.out.2]; exact (H0.out.2.2.2 m).1.2))
    rw [hF7, List.length_append, H6.out.2.2.1]; omega
  obtain ⟨A7, c7, hv7, hc7, -⟩ := own_form ho7
  subst hv7
  have h7 := H6.out.1.call hb7
  have z0 := h7.own.cell 1 0 rfl rfl
  have zf := h7.own.free 1 rfl
  have H7 := Lib.hid (And.intro h7 (And.intro (H6.out.1.foot hb7 ho7) hF7))
  clear ho7 hb7 hF7 h7
  go_wp2_with fail
  refine HK.out.to (fun w' => ∃ vf FF, TwoIs w0 xo xf (.slice A2 lo c2) vf (O ++ B) FF w') (fun _ h => h) (⟨_, _, H7.out.1⟩) ?_
  clear HK hS
  have hS : (fun w' => ∃ vf FF, TwoIs w0 xo xf (.slice A2 lo c2) vf (O ++ B) FF w') (w7) := ⟨_, _, H7.out.1⟩
  try simp only [List.getElem_toArray, List.getElem_cons_succ, List.getElem_cons_zero, Act.put, List.setIfInBounds_toArray, List.set_cons_zero, List.set_cons_succ]
  refine reg_call (i := 14) rfl (by kernel_rfl) (fun K hK => ?_)
  have HK := Lib.hid hK
  clear hK
  go_simp
  go_wp2_with fail
  refine HK.out.to (fun w' => ∃ vf FF, TwoIs w0 xo xf (.slice A2 lo c2) vf (O ++ B) FF w') (fun _ h => h) (⟨_, _, H7.out.2.1⟩) ?_
  clear HK hS
  have hS : (fun w' => ∃ vf FF, TwoIs w0 xo xf (.slice A2 lo c2) vf (O ++ B) FF w') (_) := ⟨_, _, H7.out.2.1⟩
  try simp only [List.getElem_toArray, List.getElem_cons_succ, List.getElem_cons_zero, Act.put, List.setIfInBounds_toArray, List.set_cons_zero, List.set_cons_succ]
  refine wpAnyH_done (by kernel_rfl) ?_ _
  try simp only [List.getElem_toArray, List.getElem_cons_succ, List.getElem_cons_zero]
  try simp only [List.getElem_toArray, List.getElem_cons_succ, List.getElem_cons_zero, Act.put, List.setIfInBounds_toArray, List.set_cons_zero, List.set_cons_succ]
  clear hS z0 zf
  go_upto_region 4 with (fail)
  refine wp_gen (TwoIs w0 xo xf (.slice A2 lo c2) (.slice A7 F7.length c7) (O ++ B) F7) H7.out.2.1 ?_
  intro w8 h8
  obtain ⟨l7, hl7e⟩ : ∃ l, l = F7.length := ⟨_, rfl⟩
  rw [← hl7e] at h8 hl7 hc7 ⊢
  have zc := h8.own.cell 1 0 rfl rfl
  have ku : IntKind.u64.wrap ((m : Int) + 1) = ((m : Int) + 1) := by rw [IntKind.wrap_u64]; omega
  have H8 := Lib.hid (And.intro h8 hl7e.symm)
  clear h8 hl7e
  go_wp2_with fail
  refine (V.vput_any _ A7 l7 c7 F7 ((m : Int) + 1) H8.out.2 (by have := H8.out.1.f; rw [H8.out.2] at this; exact V.ow_sl this) hc7 (by omega) (by omega) (by omega)).mono ?_
  rintro e w9 ⟨v9, rfl, ho9, hb9⟩
  rw [show ((m : Int) + 1).toNat = m + 1 by omega] at ho9
  obtain ⟨F9, hF9⟩ : ∃ F9, F9 = F7 ++ V.vput (m + 1) := ⟨_, rfl⟩
  rw [← hF9] at ho9
  have HF9 := Lib.hid hF9
  clear hF9
  obtain ⟨A9, c9, hv9, hc9, -⟩ := own_form ho9
  subst hv9
  have h9 := H8.out.1.own.call hb9
  have z0 := h9.cell 1 0 rfl rfl
  have zf := h9.free 1 rfl
  have T9 := H8.out.1.foot hb9 ho9
  have H9 := Lib.hid T9
  clear ho9 hb9 h9 zc ku T9
  go_wp2_with fail
  have e1 : O ++ (colL f (m + 1)).1 = O ++ B := by rw [H1.out.2.2.1]
  have e2 : FT ++ footB f (m + 1) = F9 := by
    unfold footB
    rw [HF9.out, H7.out.2.2, H6.out.2.1, H4.out.2, ← H1.out.2.2.1, ← HNB.out, HT.out.1, HT.out.2]
    simp only [List.append_assoc, Nat.add_sub_cancel]
  refine bodyPost_end (v := .tuple #[]) (by simp [results, Tryz.results18, go_sem]) rfl ?_
  unfold SCloPost
  rw [e1, e2]
  exact ⟨rfl, _, _, H9.out⟩
end Go.Proofs.YtopbbicjbjmdnaaGreatDoor
namespace Go.Proofs.YtopbbicjbjmdnaaGreatDoor
open Go.RowKit Go.Maps
set_option maxRecDepth 100000
set_option linter.unusedVariables false
set_option linter.unusedSimpArgs false
def shiftP (f : Nat → Pt) (a : Nat) (j : Nat) : Pt := f (a + j)
/-- How many points the block from a on has. -/
def blkN (n a : Nat) : Nat := min (a + 1024) n - a
def bO (f : Nat → Pt) (n : Nat) : Nat → List Nat
  | 0 => []
  | k + 1 => bO f n k ++ (colL (shiftP f (1024 * k)) (blkN n (1024 * k))).1
def bF (f : Nat → Pt) (n : Nat) : Nat → List Nat
  | 0 => []
  | k + 1 => bF f n k ++ footB (shiftP f (1024 * k)) (blkN n (1024 * k))
def stepV (f : Nat → Pt) (n k : Nat) : Bool := colV (shiftP f (1024 * k)) (blkN n (1024 * k)) && (k == 0 || decide ((f (1024 * k - 1)).t < (f (1024 * k)).t))
def bV (f : Nat → Pt) (n : Nat) : Nat → Bool
  | 0 => true
  | k + 1 => bV f n k && stepV f n k
theorem bV_bad {f : Nat → Pt} {n k : Nat} (h : stepV f n k = false) : ∀ m, k < m → bV f n m = false
  | 0, hk => by omega
  | m + 1, hk => by
    show (bV f n m && stepV f n m) = false
    rcases Nat.lt_or_ge k m with h1 | h1
    · rw [bV_bad h m h1]; rfl
    · rw [show m = k by omega, h]; simp
theorem colL_len (f : Nat → Pt) (n : Nat) (hn : n ≤ 4096) : (colL f n).1.length ≤ 130049 := by
  unfold colL
  have := colUp_len f n hn 3
  split
  · show (F.sealL 3 _).length ≤ _
    rw [F.sealL_length]; omega
  · show ([] : List Nat).length ≤ _; simp
theorem bO_len (f : Nat → Pt) (n : Nat) (hn : n ≤ 4096) : ∀ k, (bO f n k).length ≤ k * 130049
  | 0 => by simp [bO]
  | k + 1 => by
    have ih := bO_len f n hn k
    have h := colL_len (shiftP f (1024 * k)) (blkN n (1024 * k)) (by unfold blkN; omega)
    show (bO f n k ++ _).length ≤ _
    rw [List.length_append]
    omega
theorem footB_len (f : Nat → Pt) (hok : ∀ j, PtOk (f j)) (n : Nat) (hn : n ≤ 4096) : (footB f n).length ≤ 40 := by
  unfold footB
  have h0 := colL_len f n hn
  have h1 := V.vput_len10 (u := (colL f n).1.length) (by omega)
  have h2 := V.vput_len10 (u := zig (f 0).t) (zig_lt (hok 0).1.1 (hok 0).1.2)
  have h3 := V.vput_len10 (u := zig (f (n - 1)).t) (zig_lt (hok _).1.1 (hok _).1.2)
  have h4 := V.vput_len10 (u := n) (by omega)
  simp only [List.length_append]
  omega
theorem bF_len (f : Nat → Pt) (hok : ∀ j, PtOk (f j)) (n : Nat) (hn : n ≤ 4096) : ∀ k, (bF f n k).length ≤ k * 40
  | 0 => by simp [bF]
  | k + 1 => by
    have ih := bF_len f hok n hn k
    have h := footB_len (shiftP f (1024 * k)) (fun j => hok _) (blkN n (1024 * k)) (by unfold blkN; omega)
    show (bF f n k ++ _).length ≤ _
    rw [List.length_append]
    omega
/-- How many blocks n points have. -/
def nbl (n : Nat) : Nat := (n + 1023) / 1024
def BlkPost (w0 : World) (xo xf : Nat) (O FT : List Nat) (f : Nat → Pt) (n : Nat) (e : Ending) (w' : World) : Prop :=
  (bV f n (nbl n) = true ∧ 0 < n ∧ e = .returned (.bool true) ∧ ∃ vo vf, TwoIs w0 xo xf vo vf (O ++ bO f n (nbl n)) (FT ++ bF f n (nbl n)) w') ∨
  ((bV f n (nbl n) = false ∨ n = 0) ∧ e = .returned (.bool false) ∧ Below w0.heap.size w0 w')
set_option maxHeartbeats 4000000 in
theorem blocks_any (w0 w : World) (xo xf : Nat) (vo vf : Value) (O FT : List Nat) (A : Option Addr) (n c : Nat) (f : Nat → Pt) (h : TwoIs w0 xo xf vo vf O FT w) (hsl : SlP w (fun q => q < w0.heap.size) A n f) (hn : n ≤ 4096) (hc : n ≤ c) (hcm : c ≤ 9223372036854775807) (hO : O.length ≤ 536870912) (hF : FT.length ≤ 536870912) (hok : ∀ j, PtOk (f j)) :
    Calls Tryz.prog 17 #[.slice A n c, .func (.func 18) #[] #[.pointer (some ⟨xo, 0, none⟩), .pointer (some ⟨xf, 0, none⟩)]] w (BlkPost w0 xo xf O FT f n) := by
  have H0 := Lib.hid (And.intro h (And.intro hsl hok))
  clear h hsl hok
  go_enter Tryz.func17, Tryz.ntmps17
  go_wp2_with fail
  go_loopw [5] (fun i wr => ∃ (k : Nat), k ≤ nbl n ∧ i = .int .i64 ((1024 * k : Nat) : Int) ∧ bV f n k = true ∧ ∃ vo vf, TwoIs w0 xo xf vo vf (O ++ bO f n k) (FT ++ bF f n k) wr) (fun i _ => n - (intOf i).toNat)
  case atStart => exact ⟨0, by omega, rfl, rfl, vo, vf, by rw [show bO f n 0 = [] from rfl, show bF f n 0 = [] from rfl, List.append_nil, List.append_nil]; exact H0.out.1⟩
  case round =>
    obtain ⟨k, hk, rfl, hv, vo1, vf1, hT⟩ := hrel
    by_cases hlt : 1024 * k < n
    · obtain ⟨b, off, hA, hbl, hcell⟩ := H0.out.2.1 (by omega)
      subst hA
      obtain ⟨a, ha⟩ : ∃ a, a = 1024 * k := ⟨_, rfl⟩
      rw [← ha]
      have hlt' : (a : Int) < (n : Int) := by omega
      have HT := Lib.hid (And.intro hT (And.intro hv (And.intro ha hcell)))
      clear hT hv hcell ha
      go_upto_region 5 with (fail)
      have hp : (min ((a : Int) + 1024) (n : Int)).toNat - a = blkN n a := by unfold blkN; omega
      generalize min ((a : Int) + 1024) (n : Int) = mv at hp ⊢
      rw [hp]
      obtain ⟨p, hpe⟩ : ∃ p, p = blkN n a := ⟨_, rfl⟩
      rw [← hpe]
      have hp0 : 0 < p := by rw [hpe]; unfold blkN; omega
      have hp1 : p ≤ 1024 := by rw [hpe]; unfold blkN; omega
      have hpn : a + p ≤ n := by rw [hpe]; unfold blkN; omega
      have hsp : ∀ wx, Below w0.heap.size w0 wx → SlP wx (fun q => q < w0.heap.size) (some ⟨b, off + a * 3, none⟩) p (shiftP f a) := by
        intro wx hx
        have h1 : SlP wx (fun q => q < w0.heap.size) (some ⟨b, off, none⟩) (a + p) f := fun hq => by
          refine ⟨b, off, rfl, hbl, fun j hj => ?_⟩
          obtain ⟨g1, g2, g3⟩ := HT.out.2.2.2 j (by omega)
          have hb : ∀ o, wx.cell? ⟨b, o, none⟩ = w.cell? ⟨b, o, none⟩ := fun o => (hx.cell (by exact hbl)).trans (H0.out.1.own.bel.cell (by exact hbl)).symm
          exact ⟨(hb _).trans g1, (hb _).trans g2, (hb _).trans g3⟩
        exact h1.drop
      have hst : stepV f n k = (colV (shiftP f a) p && (k == 0 || decide ((f (a - 1)).t < (f a).t))) := by unfold stepV; rw [← HT.out.2.2.1, ← hpe]
      have HP := Lib.hid (And.intro hpe (And.intro hsp hst))
      clear hp hpe hsp hst
      have hval := fun (wx : World) (hx : Below w0.heap.size w0 wx) => cvalid_any (some ⟨b, off + a * 3, none⟩) p (c - a) (shiftP f a) _ wx (HP.out.2.1 wx hx) (by omega)
      have HV := Lib.hid hval
      clear hval
      have hS : (TwoIs w0 xo xf vo1 vf1 (O ++ bO f n k) (FT ++ bF f n k)) (wr.drew) := HT.out.1.call (Below.refl _ _).drew
      refine reg_start (TwoIs w0 xo xf vo1 vf1 (O ++ bO f n k) (FT ++ bF f n k)) (by kernel_rfl) hS ?_
      refine reg_take (i := 0) (v := ?_) rfl (by kernel_rfl) (by kernel_rfl) (by kernel_rfl) (fun _ _ _ h => h) (Or.inl ⟨by kernel_rfl, ?_⟩) hS ?_
      rotate_left
      · (intro w' hSw; go_simp <;> with_reducible rfl)
      try simp only [List.getElem_toArray, List.getElem_cons_succ, List.getElem_cons_zero, Act.put, List.setIfInBounds_toArray, List.set_cons_zero, List.set_cons_succ]
      refine reg_call (i := 1) rfl (by kernel_rfl) (fun K hK => ?_)
      have HK := Lib.hid hK
      clear hK
      go_simp
      refine (HV.out _ hS.own.bel).mono ?_
      rintro e w6 ⟨rfl, hb6⟩
      have H6 := Lib.hid (hS.call hb6)
      clear hb6
      cases hcv : colV (shiftP f a) p with
      | false =>
        have HF := Lib.hid (show bV f n (nbl n) = false from bV_bad (k := k) (by rw [HP.out.2.2, hcv]; rfl) _ (by unfold nbl; have := HT.out.2.2.1; omega))
        clear hcv
        go_wp2_with fail
        refine HK.out.to (TwoIs w0 xo xf vo1 vf1 (O ++ bO f n k) (FT ++ bF f n k)) (fun _ h => h) (H6.out) ?_
        clear HK hS
        have hS : (TwoIs w0 xo xf vo1 vf1 (O ++ bO f n k) (FT ++ bF f n k)) (w6) := H6.out
        try simp only [List.getElem_toArray, List.getElem_cons_succ, List.getElem_cons_zero, Act.put, List.setIfInBounds_toArray, List.set_cons_zero, List.set_cons_succ]
        refine reg_take (i := 2) (v := ?_) rfl (by kernel_rfl) (by kernel_rfl) (by kernel_rfl) (fun _ _ _ h => h) (Or.inl ⟨by kernel_rfl, ?_⟩) hS ?_
        rotate_left
        · (intro w' hSw; go_simp <;> with_reducible rfl)
        try simp only [List.getElem_toArray, List.getElem_cons_succ, List.getElem_cons_zero, Act.put, List.setIfInBounds_toArray, List.set_cons_zero, List.set_cons_succ]
        refine reg_take (i := 3) (v := ?_) rfl (by kernel_rfl) (by kernel_rfl) (by kernel_rfl) (fun _ _ _ h => h) (Or.inl ⟨by kernel_rfl, ?_⟩) hS ?_
        rotate_left
        · (intro w' hSw; go_simp <;> with_reducible rfl)
        try simp only [List.getElem_toArray, List.getElem_cons_succ, List.getElem_cons_zero, Act.put, List.setIfInBounds_toArray, List.set_cons_zero, List.set_cons_succ]
        refine reg_take (i := 4) (v := undef) rfl (by kernel_rfl) (by kernel_rfl) (by kernel_rfl) (fun _ _ _ h => h) (Or.inr ⟨by kernel_rfl, rfl⟩) hS ?_
        try simp only [List.getElem_toArray, List.getElem_cons_succ, List.getElem_cons_zero, Act.put, List.setIfInBounds_toArray, List.set_cons_zero, List.set_cons_succ]
        refine reg_take (i := 5) (v := undef) rfl (by kernel_rfl) (by kernel_rfl) (by kernel_rfl) (fun _ _ _ h => h) (Or.inr ⟨by kernel_rfl, rfl⟩) hS ?_
        try simp only [List.getElem_toArray, List.getElem_cons_succ, List.getElem_cons_zero, Act.put, List.setIfInBounds_toArray, List.set_cons_zero, List.set_cons_succ]
        refine reg_take (i := 6) (v := undef) rfl (by kernel_rfl) (by kernel_rfl) (by kernel_rfl) (fun _ _ _ h => h) (Or.inr ⟨by kernel_rfl, rfl⟩) hS ?_
        try simp only [List.getElem_toArray, List.getElem_cons_succ, List.getElem_cons_zero, Act.put, List.setIfInBounds_toArray, List.set_cons_zero, List.set_cons_succ]
        refine reg_take (i := 7) (v := undef) rfl (by kernel_rfl) (by kernel_rfl) (by kernel_rfl) (fun _ _ _ h => h) (Or.inr ⟨by kernel_rfl, rfl⟩) hS ?_
        try simp only [List.getElem_toArray, List.getElem_cons_succ, List.getElem_cons_zero, Act.put, List.setIfInBounds_toArray, List.set_cons_zero, List.set_cons_succ]
        refine reg_take (i := 8) (v := undef) rfl (by kernel_rfl) (by kernel_rfl) (by kernel_rfl) (fun _ _ _ h => h) (Or.inr ⟨by kernel_rfl, rfl⟩) hS ?_
        try simp only [List.getElem_toArray, List.getElem_cons_succ, List.getElem_cons_zero, Act.put, List.setIfInBounds_toArray, List.set_cons_zero, List.set_cons_succ]
        refine reg_take (i := 9) (v := undef) rfl (by kernel_rfl) (by kernel_rfl) (by kernel_rfl) (fun _ _ _ h => h) (Or.inr ⟨by kernel_rfl, rfl⟩) hS ?_
        try simp only [List.getElem_toArray, List.getElem_cons_succ, List.getElem_cons_zero, Act.put, List.setIfInBounds_toArray, List.set_cons_zero, List.set_cons_succ]
        refine reg_take (i := 10) (v := undef) rfl (by kernel_rfl) (by kernel_rfl) (by kernel_rfl) (fun _ _ _ h => h) (Or.inr ⟨by kernel_rfl, rfl⟩) hS ?_
        try simp only [List.getElem_toArray, List.getElem_cons_succ, List.getElem_cons_zero, Act.put, List.setIfInBounds_toArray, List.set_cons_zero, List.set_cons_succ]
        refine reg_take (i := 11) (v := undef) rfl (by kernel_rfl) (by kernel_rfl) (by kernel_rfl) (fun _ _ _ h => h) (Or.inr ⟨by kernel_rfl, rfl⟩) hS ?_
        try simp only [List.getElem_toArray, List.getElem_cons_succ, List.getElem_cons_zero, Act.put, List.setIfInBounds_toArray, List.set_cons_zero, List.set_cons_succ]
        refine reg_take (i := 12) (v := undef) rfl (by kernel_rfl) (by kernel_rfl) (by kernel_rfl) (fun _ _ _ h => h) (Or.inr ⟨by kernel_rfl, rfl⟩) hS ?_
        try simp only [List.getElem_toArray, List.getElem_cons_succ, List.getElem_cons_zero, Act.put, List.setIfInBounds_toArray, List.set_cons_zero, List.set_cons_succ]
        refine reg_take (i := 13) (v := undef) rfl (by kernel_rfl) (by kernel_rfl) (by kernel_rfl) (fun _ _ _ h => h) (Or.inr ⟨by kernel_rfl, rfl⟩) hS ?_
        try simp only [List.getElem_toArray, List.getElem_cons_succ, List.getElem_cons_zero, Act.put, List.setIfInBounds_toArray, List.set_cons_zero, List.set_cons_succ]
        refine reg_take (i := 14) (v := undef) rfl (by kernel_rfl) (by kernel_rfl) (by kernel_rfl) (fun _ _ _ h => h) (Or.inr ⟨by kernel_rfl, rfl⟩) hS ?_
        try simp only [List.getElem_toArray, List.getElem_cons_succ, List.getElem_cons_zero, Act.put, List.setIfInBounds_toArray, List.set_cons_zero, List.set_cons_succ]
        refine reg_take (i := 15) (v := undef) rfl (by kernel_rfl) (by kernel_rfl) (by kernel_rfl) (fun _ _ _ h => h) (Or.inr ⟨by kernel_rfl, rfl⟩) hS ?_
        try simp only [List.getElem_toArray, List.getElem_cons_succ, List.getElem_cons_zero, Act.put, List.setIfInBounds_toArray, List.set_cons_zero, List.set_cons_succ]
        refine reg_take (i := 16) (v := undef) rfl (by kernel_rfl) (by kernel_rfl) (by kernel_rfl) (fun _ _ _ h => h) (Or.inr ⟨by kernel_rfl, rfl⟩) hS ?_
        try simp only [List.getElem_toArray, List.getElem_cons_succ, List.getElem_cons_zero, Act.put, List.setIfInBounds_toArray, List.set_cons_zero, List.set_cons_succ]
        refine reg_take (i := 17) (v := undef) rfl (by kernel_rfl) (by kernel_rfl) (by kernel_rfl) (fun _ _ _ h => h) (Or.inr ⟨by kernel_rfl, rfl⟩) hS ?_
        try simp only [List.getElem_toArray, List.getElem_cons_succ, List.getElem_cons_zero, Act.put, List.setIfInBounds_toArray, List.set_cons_zero, List.set_cons_succ]
        refine reg_take (i := 18) (v := undef) rfl (by kernel_rfl) (by kernel_rfl) (by kernel_rfl) (fun _ _ _ h => h) (Or.inr ⟨by kernel_rfl, rfl⟩) hS ?_
        try simp only [List.getElem_toArray, List.getElem_cons_succ, List.getElem_cons_zero, Act.put, List.setIfInBounds_toArray, List.set_cons_zero, List.set_cons_succ]
        refine reg_take (i := 19) (v := ?_) rfl (by kernel_rfl) (by kernel_rfl) (by kernel_rfl) (fun _ _ _ h => h) (Or.inl ⟨by kernel_rfl, ?_⟩) hS ?_
        rotate_left
        · (intro w' hSw; go_simp <;> with_reducible rfl)
        try simp only [List.getElem_toArray, List.getElem_cons_succ, List.getElem_cons_zero, Act.put, List.setIfInBounds_toArray, List.set_cons_zero, List.set_cons_succ]
        refine wpAnyH_done (by kernel_rfl) ?_ _
        try simp only [List.getElem_toArray, List.getElem_cons_succ, List.getElem_cons_zero]
        try simp only [List.getElem_toArray, List.getElem_cons_succ, List.getElem_cons_zero, Act.put, List.setIfInBounds_toArray, List.set_cons_zero, List.set_cons_succ]
        have HG := Lib.hid hS.own.bel
        clear hS
        go_wp2_with fail
        go_ret
        exact .inr ⟨.inl HF.out, rfl, HG.out⟩
      | true =>
        have HCV := Lib.hid hcv
        clear hcv
        go_wp2_with fail
        refine HK.out.to (TwoIs w0 xo xf vo1 vf1 (O ++ bO f n k) (FT ++ bF f n k)) (fun _ h => h) (H6.out) ?_
        clear HK hS
        have hS : (TwoIs w0 xo xf vo1 vf1 (O ++ bO f n k) (FT ++ bF f n k)) (w6) := H6.out
        try simp only [List.getElem_toArray, List.getElem_cons_succ, List.getElem_cons_zero, Act.put, List.setIfInBounds_toArray, List.set_cons_zero, List.set_cons_succ]
        have hce : ∀ wx, Below w0.heap.size w0 wx → ∀ j, j < n → wx.cell? ⟨b, off + j * 3, none⟩ = some (.int .i64 (f j).t) := fun wx hx j hj =>
          (hx.cell (by exact hbl)).trans ((H0.out.1.own.bel.cell (by exact hbl)).symm.trans (HT.out.2.2.2 j hj).1)
        have HCE := Lib.hid hce
        clear hce
        by_cases ha0 : a = 0
        · have hk0 : k = 0 := by have := HT.out.2.2.1; omega
          have HO := Lib.hid (show stepV f n k = true by rw [HP.out.2.2, HCV.out, hk0]; rfl)
          have d0 : decide ((0 : Int) < (a : Int)) = false := by simp; omega
          have d0' : decide (0 < a) = false := by simp; omega
          clear ha0 hk0
          refine reg_take (i := 2) (v := ?_) rfl (by kernel_rfl) (by kernel_rfl) (by kernel_rfl) (fun _ _ _ h => h) (Or.inl ⟨by kernel_rfl, ?_⟩) hS ?_
          rotate_left
          · (intro w' hSw; go_simp <;> with_reducible rfl)
          try simp only [List.getElem_toArray, List.getElem_cons_succ, List.getElem_cons_zero, Act.put, List.setIfInBounds_toArray, List.set_cons_zero, List.set_cons_succ]
          refine reg_take (i := 3) (v := ?_) rfl (by kernel_rfl) (by kernel_rfl) (by kernel_rfl) (fun _ _ _ h => h) (Or.inl ⟨by kernel_rfl, ?_⟩) hS ?_
          rotate_left
          · (intro w' hSw; go_simp <;> with_reducible rfl)
          try simp only [List.getElem_toArray, List.getElem_cons_succ, List.getElem_cons_zero, Act.put, List.setIfInBounds_toArray, List.set_cons_zero, List.set_cons_succ]
          refine reg_take (i := 4) (v := ?_) rfl (by kernel_rfl) (by kernel_rfl) (by kernel_rfl) (fun _ _ _ h => h) (Or.inl ⟨by kernel_rfl, ?_⟩) hS ?_
          rotate_left
          · (intro w' hSw; go_simp <;> with_reducible rfl)
          try simp only [List.getElem_toArray, List.getElem_cons_succ, List.getElem_cons_zero, Act.put, List.setIfInBounds_toArray, List.set_cons_zero, List.set_cons_succ]
          refine reg_take (i := 5) (v := ?_) rfl (by kernel_rfl) (by kernel_rfl) (by kernel_rfl) (fun _ _ _ h => h) (Or.inl ⟨by kernel_rfl, ?_⟩) hS ?_
          rotate_left
          · (intro w' hSw; go_simp <;> with_reducible rfl)
          try simp only [List.getElem_toArray, List.getElem_cons_succ, List.getElem_cons_zero, Act.put, List.setIfInBounds_toArray, List.set_cons_zero, List.set_cons_succ]
          refine reg_take (i := 6) (v := ?_) rfl (by kernel_rfl) (by kernel_rfl) (by kernel_rfl) (fun _ _ _ h => h) (Or.inl ⟨by kernel_rfl, ?_⟩) hS ?_
          rotate_left
          · (intro w' hSw; go_simp <;> with_reducible rfl)
          try simp only [List.getElem_toArray, List.getElem_cons_succ, List.getElem_cons_zero, Act.put, List.setIfInBounds_toArray, List.set_cons_zero, List.set_cons_succ]
          refine reg_take (i := 7) (v := undef) rfl (by kernel_rfl) (by kernel_rfl) (by kernel_rfl) (fun _ _ _ h => h) (Or.inr ⟨by kernel_rfl, rfl⟩) hS ?_
          try simp only [List.getElem_toArray, List.getElem_cons_succ, List.getElem_cons_zero, Act.put, List.setIfInBounds_toArray, List.set_cons_zero, List.set_cons_succ]
          refine reg_take (i := 8) (v := undef) rfl (by kernel_rfl) (by kernel_rfl) (by kernel_rfl) (fun _ _ _ h => h) (Or.inr ⟨by kernel_rfl, rfl⟩) hS ?_
          try simp only [List.getElem_toArray, List.getElem_cons_succ, List.getElem_cons_zero, Act.put, List.setIfInBounds_toArray, List.set_cons_zero, List.set_cons_succ]
          refine reg_take (i := 9) (v := undef) rfl (by kernel_rfl) (by kernel_rfl) (by kernel_rfl) (fun _ _ _ h => h) (Or.inr ⟨by kernel_rfl, rfl⟩) hS ?_
          try simp only [List.getElem_toArray, List.getElem_cons_succ, List.getElem_cons_zero, Act.put, List.setIfInBounds_toArray, List.set_cons_zero, List.set_cons_succ]
          refine reg_take (i := 10) (v := undef) rfl (by kernel_rfl) (by kernel_rfl) (by kernel_rfl) (fun _ _ _ h => h) (Or.inr ⟨by kernel_rfl, rfl⟩) hS ?_
          try simp only [List.getElem_toArray, List.getElem_cons_succ, List.getElem_cons_zero, Act.put, List.setIfInBounds_toArray, List.set_cons_zero, List.set_cons_succ]
          refine reg_take (i := 11) (v := undef) rfl (by kernel_rfl) (by kernel_rfl) (by kernel_rfl) (fun _ _ _ h => h) (Or.inr ⟨by kernel_rfl, rfl⟩) hS ?_
          try simp only [List.getElem_toArray, List.getElem_cons_succ, List.getElem_cons_zero, Act.put, List.setIfInBounds_toArray, List.set_cons_zero, List.set_cons_succ]
          refine reg_take (i := 12) (v := undef) rfl (by kernel_rfl) (by kernel_rfl) (by kernel_rfl) (fun _ _ _ h => h) (Or.inr ⟨by kernel_rfl, rfl⟩) hS ?_
          try simp only [List.getElem_toArray, List.getElem_cons_succ, List.getElem_cons_zero, Act.put, List.setIfInBounds_toArray, List.set_cons_zero, List.set_cons_succ]
          refine reg_take (i := 13) (v := undef) rfl (by kernel_rfl) (by kernel_rfl) (by kernel_rfl) (fun _ _ _ h => h) (Or.inr ⟨by kernel_rfl, rfl⟩) hS ?_
          try simp only [List.getElem_toArray, List.getElem_cons_succ, List.getElem_cons_zero, Act.put, List.setIfInBounds_toArray, List.set_cons_zero, List.set_cons_succ]
          refine reg_take (i := 14) (v := undef) rfl (by kernel_rfl) (by kernel_rfl) (by kernel_rfl) (fun _ _ _ h => h) (Or.inr ⟨by kernel_rfl, rfl⟩) hS ?_
          try simp only [List.getElem_toArray, List.getElem_cons_succ, List.getElem_cons_zero, Act.put, List.setIfInBounds_toArray, List.set_cons_zero, List.set_cons_succ]
          refine reg_take (i := 15) (v := undef) rfl (by kernel_rfl) (by kernel_rfl) (by kernel_rfl) (fun _ _ _ h => h) (Or.inr ⟨by kernel_rfl, rfl⟩) hS ?_
          try simp only [List.getElem_toArray, List.getElem_cons_succ, List.getElem_cons_zero, Act.put, List.setIfInBounds_toArray, List.set_cons_zero, List.set_cons_succ]
          refine reg_take (i := 16) (v := undef) rfl (by kernel_rfl) (by kernel_rfl) (by kernel_rfl) (fun _ _ _ h => h) (Or.inr ⟨by kernel_rfl, rfl⟩) hS ?_
          try simp only [List.getElem_toArray, List.getElem_cons_succ, List.getElem_cons_zero, Act.put, List.setIfInBounds_toArray, List.set_cons_zero, List.set_cons_succ]
          refine reg_take (i := 17) (v := undef) rfl (by kernel_rfl) (by kernel_rfl) (by kernel_rfl) (fun _ _ _ h => h) (Or.inr ⟨by kernel_rfl, rfl⟩) hS ?_
          try simp only [List.getElem_toArray, List.getElem_cons_succ, List.getElem_cons_zero, Act.put, List.setIfInBounds_toArray, List.set_cons_zero, List.set_cons_succ]
          refine reg_take (i := 18) (v := ?_) rfl (by kernel_rfl) (by kernel_rfl) (by kernel_rfl) (fun _ _ _ h => h) (Or.inl ⟨by kernel_rfl, ?_⟩) hS ?_
          rotate_left
          · (intro w' hSw; go_simp <;> with_reducible rfl)
          try simp only [List.getElem_toArray, List.getElem_cons_succ, List.getElem_cons_zero, Act.put, List.setIfInBounds_toArray, List.set_cons_zero, List.set_cons_succ]
          refine reg_take (i := 19) (v := ?_) rfl (by kernel_rfl) (by kernel_rfl) (by kernel_rfl) (fun _ _ _ h => h) (Or.inl ⟨by kernel_rfl, ?_⟩) hS ?_
          rotate_left
          · (intro w' hSw; go_simp <;> with_reducible rfl)
          try simp only [List.getElem_toArray, List.getElem_cons_succ, List.getElem_cons_zero, Act.put, List.setIfInBounds_toArray, List.set_cons_zero, List.set_cons_succ]
          refine wpAnyH_done (by kernel_rfl) ?_ _
          try simp only [List.getElem_toArray, List.getElem_cons_succ, List.getElem_cons_zero]
          try simp only [List.getElem_toArray, List.getElem_cons_succ, List.getElem_cons_zero, Act.put, List.setIfInBounds_toArray, List.set_cons_zero, List.set_cons_succ]
          have HG := Lib.hid hS
          clear hS
          go_wp2_with fail
          refine (sclo_any w0 _ xo xf vo1 vf1 (O ++ bO f n k) (FT ++ bF f n k) (some ⟨b, off + a * 3, none⟩) p (c - a) (shiftP f a) HG.out (HP.out.2.1 _ HG.out.own.bel) hp0 (by omega) (by omega)
            (by have := bO_len f n hn k; have := HT.out.2.2.1; rw [List.length_append]; omega) (by have := bF_len f H0.out.2.2 n hn k; have := HT.out.2.2.1; rw [List.length_append]; omega)
            (by have := colL_len (shiftP f a) p (by omega); omega) (fun j => H0.out.2.2 _)).mono ?_
          rintro e w8 ⟨rfl, vo2, vf2, h8⟩
          have HE := Lib.hid h8
          clear h8
          go_wp2_with fail
          go_roundw
          case rel =>
            refine ⟨k + 1, by unfold nbl; have := HT.out.2.2.1; omega, by congr 1; have := HT.out.2.2.1; omega, ?_, vo2, vf2, ?_⟩
            · show (bV f n k && stepV f n k) = true
              rw [HT.out.2.1, HO.out]; rfl
            · have e1 : O ++ bO f n (k + 1) = (O ++ bO f n k) ++ (colL (shiftP f a) p).1 := by rw [List.append_assoc, HP.out.1, HT.out.2.2.1]; rfl
              have e2 : FT ++ bF f n (k + 1) = (FT ++ bF f n k) ++ footB (shiftP f a) p := by rw [List.append_assoc, HP.out.1, HT.out.2.2.1]; rfl
              rw [e1, e2]
              exact HE.out
          case measure => simp [intOf] <;> omega
        · have d0 : decide ((0 : Int) < (a : Int)) = true := by simp; omega
          have d0' : decide (0 < a) = true := by simp; omega
          obtain ⟨q, hq⟩ : ∃ q, q = a - 1 := ⟨_, rfl⟩
          have km : ((a : Int) - 1) = (q : Int) := by omega
          have kw : IntKind.i64.wrap (q : Int) = (q : Int) := IntWalk.i64_in _ (by omega)
          have hqn : (q : Int) < (n : Int) := by omega
          have hqn' : q < n := by omega
          have hp0i : (0 : Int) < (p : Int) := by omega
          have hst : stepV f n k = !decide ((f a).t ≤ (f q).t) := by
            rw [HP.out.2.2, HCV.out, hq]
            have hk : (k == 0) = false := by have := HT.out.2.2.1; simp; omega
            rw [hk]
            by_cases g : (f (a - 1)).t < (f a).t
            · rw [decide_eq_true g, decide_eq_false (by omega)]; rfl
            · rw [decide_eq_false g, decide_eq_true (by omega)]; rfl
          have HST := Lib.hid hst
          clear hst ha0 hq
          refine reg_take (i := 2) (v := ?_) rfl (by kernel_rfl) (by kernel_rfl) (by kernel_rfl) (fun _ _ _ h => h) (Or.inl ⟨by kernel_rfl, ?_⟩) hS ?_
          rotate_left
          · (intro w' hSw; go_simp <;> with_reducible rfl)
          try simp only [List.getElem_toArray, List.getElem_cons_succ, List.getElem_cons_zero, Act.put, List.setIfInBounds_toArray, List.set_cons_zero, List.set_cons_succ]
          refine reg_take (i := 3) (v := ?_) rfl (by kernel_rfl) (by kernel_rfl) (by kernel_rfl) (fun _ _ _ h => h) (Or.inl ⟨by kernel_rfl, ?_⟩) hS ?_
          rotate_left
          · (intro w' hSw; go_simp <;> with_reducible rfl)
          try simp only [List.getElem_toArray, List.getElem_cons_succ, List.getElem_cons_zero, Act.put, List.setIfInBounds_toArray, List.set_cons_zero, List.set_cons_succ]
          refine reg_take (i := 4) (v := ?_) rfl (by kernel_rfl) (by kernel_rfl) (by kernel_rfl) (fun _ _ _ h => h) (Or.inl ⟨by kernel_rfl, ?_⟩) hS ?_
          rotate_left
          · (intro w' hSw; go_simp <;> with_reducible rfl)
          try simp only [List.getElem_toArray, List.getElem_cons_succ, List.getElem_cons_zero, Act.put, List.setIfInBounds_toArray, List.set_cons_zero, List.set_cons_succ]
          refine reg_take (i := 5) (v := ?_) rfl (by kernel_rfl) (by kernel_rfl) (by kernel_rfl) (fun _ _ _ h => h) (Or.inl ⟨by kernel_rfl, ?_⟩) hS ?_
          rotate_left
          · (intro w' hSw; go_simp <;> with_reducible rfl)
          try simp only [List.getElem_toArray, List.getElem_cons_succ, List.getElem_cons_zero, Act.put, List.setIfInBounds_toArray, List.set_cons_zero, List.set_cons_succ]
          refine reg_take (i := 6) (v := ?_) rfl (by kernel_rfl) (by kernel_rfl) (by kernel_rfl) (fun _ _ _ h => h) (Or.inl ⟨by kernel_rfl, ?_⟩) hS ?_
          rotate_left
          · (intro w' hSw; go_simp <;> with_reducible rfl)
          try simp only [List.getElem_toArray, List.getElem_cons_succ, List.getElem_cons_zero, Act.put, List.setIfInBounds_toArray, List.set_cons_zero, List.set_cons_succ]
          refine reg_take (i := 7) (v := ?_) rfl (by kernel_rfl) (by kernel_rfl) (by kernel_rfl) (fun _ _ _ h => h) (Or.inl ⟨by kernel_rfl, ?_⟩) hS ?_
          rotate_left
          · (intro w' hSw; go_simp <;> with_reducible rfl)
          try simp only [List.getElem_toArray, List.getElem_cons_succ, List.getElem_cons_zero, Act.put, List.setIfInBounds_toArray, List.set_cons_zero, List.set_cons_succ]
          refine reg_take (i := 8) (v := ?_) rfl (by kernel_rfl) (by kernel_rfl) (by kernel_rfl) (fun _ _ _ h => h) (Or.inl ⟨by kernel_rfl, ?_⟩) hS ?_
          rotate_left
          · (intro w' hSw; go_simp <;> with_reducible rfl)
          try simp only [List.getElem_toArray, List.getElem_cons_succ, List.getElem_cons_zero, Act.put, List.setIfInBounds_toArray, List.set_cons_zero, List.set_cons_succ]
          refine reg_take (i := 9) (v := ?_) rfl (by kernel_rfl) (by kernel_rfl) (by kernel_rfl) (fun _ _ _ h => h) (Or.inl ⟨by kernel_rfl, ?_⟩) hS ?_
          rotate_left
          · (intro w' hSw; go_simp <;> with_reducible rfl)
          try simp only [List.getElem_toArray, List.getElem_cons_succ, List.getElem_cons_zero, Act.put, List.setIfInBounds_toArray, List.set_cons_zero, List.set_cons_succ]
          refine reg_take (i := 10) (v := ?_) rfl (by kernel_rfl) (by kernel_rfl) (by kernel_rfl) (fun _ _ _ h => h) (Or.inl ⟨by kernel_rfl, ?_⟩) hS ?_
          rotate_left
          · (intro w' hSw; have u0 := HCE.out w' hSw.own.bel a (by omega); go_simp <;> with_reducible rfl)
          try simp only [List.getElem_toArray, List.getElem_cons_succ, List.getElem_cons_zero, Act.put, List.setIfInBounds_toArray, List.set_cons_zero, List.set_cons_succ]
          refine reg_take (i := 11) (v := ?_) rfl (by kernel_rfl) (by kernel_rfl) (by kernel_rfl) (fun _ _ _ h => h) (Or.inl ⟨by kernel_rfl, ?_⟩) hS ?_
          rotate_left
          · (intro w' hSw; go_simp <;> with_reducible rfl)
          try simp only [List.getElem_toArray, List.getElem_cons_succ, List.getElem_cons_zero, Act.put, List.setIfInBounds_toArray, List.set_cons_zero, List.set_cons_succ]
          refine reg_take (i := 12) (v := ?_) rfl (by kernel_rfl) (by kernel_rfl) (by kernel_rfl) (fun _ _ _ h => h) (Or.inl ⟨by kernel_rfl, ?_⟩) hS ?_
          rotate_left
          · (intro w' hSw; go_simp <;> with_reducible rfl)
          try simp only [List.getElem_toArray, List.getElem_cons_succ, List.getElem_cons_zero, Act.put, List.setIfInBounds_toArray, List.set_cons_zero, List.set_cons_succ]
          refine reg_take (i := 13) (v := ?_) rfl (by kernel_rfl) (by kernel_rfl) (by kernel_rfl) (fun _ _ _ h => h) (Or.inl ⟨by kernel_rfl, ?_⟩) hS ?_
          rotate_left
          · (intro w' hSw; go_simp <;> with_reducible rfl)
          try simp only [List.getElem_toArray, List.getElem_cons_succ, List.getElem_cons_zero, Act.put, List.setIfInBounds_toArray, List.set_cons_zero, List.set_cons_succ]
          refine reg_take (i := 14) (v := ?_) rfl (by kernel_rfl) (by kernel_rfl) (by kernel_rfl) (fun _ _ _ h => h) (Or.inl ⟨by kernel_rfl, ?_⟩) hS ?_
          rotate_left
          · (intro w' hSw; go_simp <;> with_reducible rfl)
          try simp only [List.getElem_toArray, List.getElem_cons_succ, List.getElem_cons_zero, Act.put, List.setIfInBounds_toArray, List.set_cons_zero, List.set_cons_succ]
          refine reg_take (i := 15) (v := ?_) rfl (by kernel_rfl) (by kernel_rfl) (by kernel_rfl) (fun _ _ _ h => h) (Or.inl ⟨by kernel_rfl, ?_⟩) hS ?_
          rotate_left
          · (intro w' hSw; go_simp <;> with_reducible rfl)
          try simp only [List.getElem_toArray, List.getElem_cons_succ, List.getElem_cons_zero, Act.put, List.setIfInBounds_toArray, List.set_cons_zero, List.set_cons_succ]
          refine reg_take (i := 16) (v := ?_) rfl (by kernel_rfl) (by kernel_rfl) (by kernel_rfl) (fun _ _ _ h => h) (Or.inl ⟨by kernel_rfl, ?_⟩) hS ?_
          rotate_left
          · (intro w' hSw; have u1 := HCE.out w' hSw.own.bel q hqn'; go_simp <;> with_reducible rfl)
          try simp only [List.getElem_toArray, List.getElem_cons_succ, List.getElem_cons_zero, Act.put, List.setIfInBounds_toArray, List.set_cons_zero, List.set_cons_succ]
          refine reg_take (i := 17) (v := ?_) rfl (by kernel_rfl) (by kernel_rfl) (by kernel_rfl) (fun _ _ _ h => h) (Or.inl ⟨by kernel_rfl, ?_⟩) hS ?_
          rotate_left
          · (intro w' hSw; go_simp <;> with_reducible rfl)
          try simp only [List.getElem_toArray, List.getElem_cons_succ, List.getElem_cons_zero, Act.put, List.setIfInBounds_toArray, List.set_cons_zero, List.set_cons_succ]
          by_cases hle : (f a).t ≤ (f q).t
          · have d1 : decide ((f a).t ≤ (f q).t) = true := by simp [hle]
            have HF := Lib.hid (show bV f n (nbl n) = false from bV_bad (k := k) (by rw [HST.out, d1]; rfl) _ (by unfold nbl; have := HT.out.2.2.1; omega))
            clear hle
            refine reg_take (i := 18) (v := ?_) rfl (by kernel_rfl) (by kernel_rfl) (by kernel_rfl) (fun _ _ _ h => h) (Or.inl ⟨by kernel_rfl, ?_⟩) hS ?_
            rotate_left
            · (intro w' hSw; go_simp <;> with_reducible rfl)
            try simp only [List.getElem_toArray, List.getElem_cons_succ, List.getElem_cons_zero, Act.put, List.setIfInBounds_toArray, List.set_cons_zero, List.set_cons_succ]
            refine reg_take (i := 19) (v := ?_) rfl (by kernel_rfl) (by kernel_rfl) (by kernel_rfl) (fun _ _ _ h => h) (Or.inl ⟨by kernel_rfl, ?_⟩) hS ?_
            rotate_left
            · (intro w' hSw; go_simp <;> with_reducible rfl)
            try simp only [List.getElem_toArray, List.getElem_cons_succ, List.getElem_cons_zero, Act.put, List.setIfInBounds_toArray, List.set_cons_zero, List.set_cons_succ]
            refine wpAnyH_done (by kernel_rfl) ?_ _
            try simp only [List.getElem_toArray, List.getElem_cons_succ, List.getElem_cons_zero]
            try simp only [List.getElem_toArray, List.getElem_cons_succ, List.getElem_cons_zero, Act.put, List.setIfInBounds_toArray, List.set_cons_zero, List.set_cons_succ]
            have HG := Lib.hid hS.own.bel
            clear hS
            go_wp2_with fail
            go_ret
            exact .inr ⟨.inl HF.out, rfl, HG.out⟩
          · have d1 : decide ((f a).t ≤ (f q).t) = false := by simp; omega
            have HO := Lib.hid (show stepV f n k = true by rw [HST.out, d1]; rfl)
            clear hle
            refine reg_take (i := 18) (v := ?_) rfl (by kernel_rfl) (by kernel_rfl) (by kernel_rfl) (fun _ _ _ h => h) (Or.inl ⟨by kernel_rfl, ?_⟩) hS ?_
            rotate_left
            · (intro w' hSw; go_simp <;> with_reducible rfl)
            try simp only [List.getElem_toArray, List.getElem_cons_succ, List.getElem_cons_zero, Act.put, List.setIfInBounds_toArray, List.set_cons_zero, List.set_cons_succ]
            refine reg_take (i := 19) (v := ?_) rfl (by kernel_rfl) (by kernel_rfl) (by kernel_rfl) (fun _ _ _ h => h) (Or.inl ⟨by kernel_rfl, ?_⟩) hS ?_
            rotate_left
            · (intro w' hSw; go_simp <;> with_reducible rfl)
            try simp only [List.getElem_toArray, List.getElem_cons_succ, List.getElem_cons_zero, Act.put, List.setIfInBounds_toArray, List.set_cons_zero, List.set_cons_succ]
            refine wpAnyH_done (by kernel_rfl) ?_ _
            try simp only [List.getElem_toArray, List.getElem_cons_succ, List.getElem_cons_zero]
            try simp only [List.getElem_toArray, List.getElem_cons_succ, List.getElem_cons_zero, Act.put, List.setIfInBounds_toArray, List.set_cons_zero, List.set_cons_succ]
            have HG := Lib.hid hS
            clear hS
            go_wp2_with fail
            refine (sclo_any w0 _ xo xf vo1 vf1 (O ++ bO f n k) (FT ++ bF f n k) (some ⟨b, off + a * 3, none⟩) p (c - a) (shiftP f a) HG.out (HP.out.2.1 _ HG.out.own.bel) hp0 (by omega) (by omega)
              (by have := bO_len f n hn k; have := HT.out.2.2.1; rw [List.length_append]; omega) (by have := bF_len f H0.out.2.2 n hn k; have := HT.out.2.2.1; rw [List.length_append]; omega)
              (by have := colL_len (shiftP f a) p (by omega); omega) (fun j => H0.out.2.2 _)).mono ?_
            rintro e w8 ⟨rfl, vo2, vf2, h8⟩
            have HE := Lib.hid h8
            clear h8
            go_wp2_with fail
            go_roundw
            case rel =>
              refine ⟨k + 1, by unfold nbl; have := HT.out.2.2.1; omega, by congr 1; have := HT.out.2.2.1; omega, ?_, vo2, vf2, ?_⟩
              · show (bV f n k && stepV f n k) = true
                rw [HT.out.2.1, HO.out]; rfl
              · have e1 : O ++ bO f n (k + 1) = (O ++ bO f n k) ++ (colL (shiftP f a) p).1 := by rw [List.append_assoc, HP.out.1, HT.out.2.2.1]; rfl
                have e2 : FT ++ bF f n (k + 1) = (FT ++ bF f n k) ++ footB (shiftP f a) p := by rw [List.append_assoc, HP.out.1, HT.out.2.2.1]; rfl
                rw [e1, e2]
                exact HE.out
            case measure => simp [intOf] <;> omega
    · have HE := Lib.hid (And.intro hT hv)
      clear hT hv
      rcases Nat.eq_zero_or_pos n with h0 | h0
      · subst h0
        have d1 : decide (((1024 * k : Nat) : Int) < 0) = false := by simp; omega
        go_wp2_with fail
        go_ret
        exact .inr ⟨.inr rfl, rfl, HE.out.1.own.bel⟩
      · have hkn : k = nbl n := by unfold nbl at hk ⊢; omega
        have d1 : decide (((1024 * k : Nat) : Int) < (n : Int)) = false := by simp; omega
        have d2 : decide ((0 : Int) < (n : Int)) = true := by simp; omega
        have HK := Lib.hid hkn
        clear hkn
        go_wp2_with fail
        go_ret
        refine .inl ⟨by rw [← HK.out]; exact HE.out.2, h0, rfl, vo1, vf1, ?_⟩
        rw [← HK.out]
        exact HE.out.1
end Go.Proofs.YtopbbicjbjmdnaaGreatDoor
