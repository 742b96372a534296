/-
  The contract of column.Encode. (Printed by mk.py.)
-/
import Derived.Test.YtboecnakndpgfaaColC
import Derived.WalkKit
import Derived.WalkSpells
import Derived.WalkLawsBesides
import Derived.Outline
import Derived.Laws.Tables
import Derived.Deep.Cut
namespace Go.Proofs.Ytboecnakndpgfaa
open Go.RowKit
set_option linter.unusedVariables false
set_option linter.unusedSimpArgs false
theorem W3.start {e : Fin 3 → TypeId} {w0 w : World} {x y : Nat} {v z : Fin 3 → Value} {l : Fin 3 → List Value} (h : R3 e w0 w x v l) (hy : y = w.heap.size) (t : TypeId) (cs : Array Value) :
    W3 e w0 x v z l y (some (.cells cs t (0, 0))) (fun _ => .z) (w.alloc (.cells cs t)) := by
  subst hy
  exact ⟨h.alloc _, fun c q hq => (by cases hq), Blk.fresh _ _ _, fun d g hg => (by have := (h.lt d hg).2; omega), by simp⟩
theorem W3.drew {e : Fin 3 → TypeId} {w0 w : World} {x y : Nat} {v z : Fin 3 → Value} {l : Fin 3 → List Value} {Y : Option Obj} {s : Fin 3 → Sg} (h : W3 e w0 x v z l y Y s w) : W3 e w0 x v z l y Y s w.drew :=
  ⟨h.r.drew, h.cel, h.yk, h.yn, h.yl⟩
def eTb (c : Fin 3) : Nat := match c with | 0 => 30 | 1 => 36 | 2 => 41
def eTr (c : Fin 3) : Nat := match c with | 0 => 31 | 1 => 37 | 2 => 42
def eTm (c : Fin 3) : Nat := match c with | 0 => 27 | 1 => 32 | 2 => 38
def eTv (c : Fin 3) : Nat := match c with | 0 => 29 | 1 => 35 | 2 => 40
def eJb (c : Fin 3) : Nat := match c with | 0 => 3 | 1 => 9 | 2 => 14
def eJa (c : Fin 3) : Nat := match c with | 0 => 4 | 1 => 10 | 2 => 15
def eLst (s : Fin 3 → Sg) : Array Bool := #[true, true, true, (s 0).b1, (s 0).b2, true, true, true, true, (s 1).b1, (s 1).b2, true, true, true, (s 2).b1, (s 2).b2, false, false, false]
theorem eSix : Six eTb eTr := by unfold Six; decide
theorem eLb (s : Fin 3 → Sg) (c : Fin 3) (q : Nat) (hs : s c = .z) : (eLst s).setIfInBounds (eJb c) true = eLst (upd s c (.b q)) := by
  unfold eLst
  match c, hs with
  | 0, hs => rw [upd_same, upd_ne _ _ (by decide), upd_ne _ _ (by decide), hs]; rfl
  | 1, hs => rw [upd_same, upd_ne _ _ (by decide), upd_ne _ _ (by decide), hs]; rfl
  | 2, hs => rw [upd_same, upd_ne _ _ (by decide), upd_ne _ _ (by decide), hs]; rfl
theorem eLr (s : Fin 3 → Sg) (c : Fin 3) (q : Nat) (v' : Value) (hs : s c = .b q) : (eLst s).setIfInBounds (eJa c) true = eLst (upd s c (.r q v')) := by
  unfold eLst
  match c, hs with
  | 0, hs => rw [upd_same, upd_ne _ _ (by decide), upd_ne _ _ (by decide), hs]; rfl
  | 1, hs => rw [upd_same, upd_ne _ _ (by decide), upd_ne _ _ (by decide), hs]; rfl
  | 2, hs => rw [upd_same, upd_ne _ _ (by decide), upd_ne _ _ (by decide), hs]; rfl
theorem left0 {s : Fin 3 → Sg} (h : left3 s = 0) (c : Fin 3) : ∃ q v, s c = .r q v := by
  unfold left3 at h
  have : (s c).left = 0 := by match c with | 0 => omega | 1 => omega | 2 => omega
  cases hs : s c with
  | z => rw [hs] at this; cases this
  | b q => rw [hs] at this; cases this
  | r q v => exact ⟨q, v, rfl⟩
def zOf (p : Pt) (c : Fin 3) : Value := match c with | 0 => .int .i64 p.t | 1 => .int .u64 (IntKind.u64.wrap p.v) | 2 => .int .i64 p.s
theorem zOf_is (f : Nat → Pt) (k : Nat) : zOf (f k) = fun c => colC f c k := by funext c; match c with | 0 => rfl | 1 => rfl | 2 => rfl
theorem W3.last {w0 w : World} {x y k : Nat} {v : Fin 3 → Value} {f : Nat → Pt} {p : Pt} {Y : Option Obj} {s : Fin 3 → Sg} (h : W3 cE w0 x v (zOf p) (colRow f k) y Y s w) (hp : f k = p) (hl : left3 s = 0) :
    R3 cE w0 w x (fun c => (s c).row (v c)) (colRow f (k + 1)) := by
  have hr := h.r
  have e : (fun c => (s c).lst (colRow f k c) (zOf p c)) = colRow f (k + 1) := by
    funext c
    obtain ⟨q, u, hs⟩ := left0 hl c
    rw [hs, colRow_succ, ← hp, zOf_is]; rfl
  rw [e] at hr
  exact hr
theorem index3 (A0 A1 A2 : Option Addr) (n0 n1 n2 c0 c1 c2 : Nat) (w : World) :
    (Instr.index 38 (.agg #[.slice A0 n0 c0, .slice A1 n1 c1, .slice A2 n2 c2]) (.int .i64 0)).run Try.prog w = .ok (.slice A0 n0 c0) w ∧
    (Instr.index 38 (.agg #[.slice A0 n0 c0, .slice A1 n1 c1, .slice A2 n2 c2]) (.int .i64 1)).run Try.prog w = .ok (.slice A1 n1 c1) w ∧
    (Instr.index 38 (.agg #[.slice A0 n0 c0, .slice A1 n1 c1, .slice A2 n2 c2]) (.int .i64 2)).run Try.prog w = .ok (.slice A2 n2 c2) w := by
  refine ⟨?_, rfl, rfl⟩
  unfold Instr.index
  simp [run_underlying Try.underlying38, asIntOf, go_sem]
set_option maxRecDepth 100000 in
set_option maxHeartbeats 8000000 in
theorem cencode_any (A : Option Addr) (n c : Nat) (f : Nat → Pt) (D0 : Nat → Prop) (w : World) (hsl : SlP w D0 A n f) (hn : n ≤ 9223372036854775807) :
    Calls Try.prog 4 #[.slice A n c] w (F.BytesPost w (colL f n).1 (colL f n).2) := by
  have HO := Lib.hid hsl
  clear hsl
  go_enter Try.func4, Try.ntmps4
  go_wp2_with fail
  refine (cvalid_any _ _ _ f D0 _ HO.out hn).mono ?_
  rintro e w1 ⟨rfl, hb1⟩
  cases hv : colV f n with
  | false =>
    have HF := Lib.hid (And.intro hv (Keeps.of_below (S := fun _ => False) hb1))
    clear hv hb1
    go_wp2_with fail
    go_ret2
    exact col_bad HF.out.1 HF.out.2
  | true =>
    obtain ⟨-, hn0, hn4⟩ := colV_spec hv
    have HV := Lib.hid hv
    have HS := Lib.hid (R3.start cE (Keeps.of_below (S := fun _ => False) hb1))
    clear hv hb1
    go_wp2_with fail
    go_loopw [4, 5, 6, 23] (fun v4 v5 v6 i wr => ∃ (k : Nat) (v : Fin 3 → Value), k ≤ n ∧ i = .int .i64 k ∧ v4 = v 0 ∧ v5 = v 2 ∧ v6 = v 1 ∧ R3 cE w wr w1.heap.size v (colRow f k)) (fun _ _ _ i _ => n - (intOf i).toNat)
    case atStart => exact ⟨0, _, Nat.zero_le _, rfl, rfl, rfl, rfl, HS.out⟩
    case round =>
      obtain ⟨k, v, hk, rfl, rfl, rfl, rfl, hR⟩ := hrel
      by_cases hlt : k < n
      · obtain ⟨b, off, rfl, -, hc⟩ := (HO.out.keeps hR.keep) (by omega)
        obtain ⟨k0, k1, k2⟩ := hc k hlt
        clear hc
        generalize hp : f k = p at k0 k1 k2
        obtain ⟨y, hy⟩ : ∃ y, y = wr.heap.size := ⟨_, rfl⟩
        have HY := Lib.hid (And.intro hy (And.intro hp (W3.start (z := zOf p) hR hy 30 #[.int .i64 p.t, .int .i64 p.v, .int .i64 p.s])))
        clear hy hp hR
        go_upto_region 8 with (fail)
        rw [← HY.out.1]
        have hS := HY.out.2.2
        have HP := Lib.hid HY.out.2.1
        clear k0 k1 k2 HY
        refine wp_gen (W3 cE w w1.heap.size v (zOf p) (colRow f k) y (some (.cells #[.int .i64 p.t, .int .i64 p.v, .int .i64 p.s] 30 (0, 0))) (fun _ => .z)) hS ?_
        clear hS
        intro w2 hS0
        have HW := Lib.hid hS0.drew
        clear hS0
        have hS : (fun w' => Blk w' y 30 #[.int .i64 p.t, .int .i64 p.v, .int .i64 p.s]) (w2.drew) := HW.out.yk
        refine reg_start (fun w' => Blk w' y 30 #[.int .i64 p.t, .int .i64 p.v, .int .i64 p.s]) (by kernel_rfl) hS ?_
        refine reg_take (i := 0) (v := ?_) rfl (by kernel_rfl) (by kernel_rfl) (by kernel_rfl) (fun _ _ _ h => h) (Or.inl ⟨by kernel_rfl, ?_⟩) hS ?_
        rotate_left
        · (intro w' hSw; have z0 := hSw.cell 0; have z1 := hSw.cell 1; have z2 := hSw.cell 2; simp only [List.getElem?_toArray, List.getElem?_cons_zero, List.getElem?_cons_succ] at z0 z1 z2; go_simp <;> with_reducible rfl)
        try simp only [List.getElem_toArray, List.getElem_cons_succ, List.getElem_cons_zero, Act.put, List.setIfInBounds_toArray, List.set_cons_zero, List.set_cons_succ]
        refine reg_take (i := 1) (v := ?_) rfl (by kernel_rfl) (by kernel_rfl) (by kernel_rfl) (fun _ _ _ h => h) (Or.inl ⟨by kernel_rfl, ?_⟩) hS ?_
        rotate_left
        · (intro w' hSw; have z0 := hSw.cell 0; have z1 := hSw.cell 1; have z2 := hSw.cell 2; simp only [List.getElem?_toArray, List.getElem?_cons_zero, List.getElem?_cons_succ] at z0 z1 z2; go_simp <;> with_reducible rfl)
        try simp only [List.getElem_toArray, List.getElem_cons_succ, List.getElem_cons_zero, Act.put, List.setIfInBounds_toArray, List.set_cons_zero, List.set_cons_succ]
        refine reg_take (i := 2) (v := ?_) rfl (by kernel_rfl) (by kernel_rfl) (by kernel_rfl) (fun _ _ _ h => h) (Or.inl ⟨by kernel_rfl, ?_⟩) hS ?_
        rotate_left
        · (intro w' hSw; have z0 := hSw.cell 0; have z1 := hSw.cell 1; have z2 := hSw.cell 2; simp only [List.getElem?_toArray, List.getElem?_cons_zero, List.getElem?_cons_succ] at z0 z1 z2; go_simp <;> with_reducible rfl)
        try simp only [List.getElem_toArray, List.getElem_cons_succ, List.getElem_cons_zero, Act.put, List.setIfInBounds_toArray, List.set_cons_zero, List.set_cons_succ]
        refine reg_take (i := 5) (v := ?_) rfl (by kernel_rfl) (by kernel_rfl) (by kernel_rfl) (fun _ _ _ h => h) (Or.inl ⟨by kernel_rfl, ?_⟩) hS ?_
        rotate_left
        · (intro w' hSw; have z0 := hSw.cell 0; have z1 := hSw.cell 1; have z2 := hSw.cell 2; simp only [List.getElem?_toArray, List.getElem?_cons_zero, List.getElem?_cons_succ] at z0 z1 z2; go_simp <;> with_reducible rfl)
        try simp only [List.getElem_toArray, List.getElem_cons_succ, List.getElem_cons_zero, Act.put, List.setIfInBounds_toArray, List.set_cons_zero, List.set_cons_succ]
        refine reg_take (i := 6) (v := ?_) rfl (by kernel_rfl) (by kernel_rfl) (by kernel_rfl) (fun _ _ _ h => h) (Or.inl ⟨by kernel_rfl, ?_⟩) hS ?_
        rotate_left
        · (intro w' hSw; have z0 := hSw.cell 0; have z1 := hSw.cell 1; have z2 := hSw.cell 2; simp only [List.getElem?_toArray, List.getElem?_cons_zero, List.getElem?_cons_succ] at z0 z1 z2; go_simp <;> with_reducible rfl)
        try simp only [List.getElem_toArray, List.getElem_cons_succ, List.getElem_cons_zero, Act.put, List.setIfInBounds_toArray, List.set_cons_zero, List.set_cons_succ]
        refine reg_take (i := 7) (v := ?_) rfl (by kernel_rfl) (by kernel_rfl) (by kernel_rfl) (fun _ _ _ h => h) (Or.inl ⟨by kernel_rfl, ?_⟩) hS ?_
        rotate_left
        · (intro w' hSw; have z0 := hSw.cell 0; have z1 := hSw.cell 1; have z2 := hSw.cell 2; simp only [List.getElem?_toArray, List.getElem?_cons_zero, List.getElem?_cons_succ] at z0 z1 z2; go_simp <;> with_reducible rfl)
        try simp only [List.getElem_toArray, List.getElem_cons_succ, List.getElem_cons_zero, Act.put, List.setIfInBounds_toArray, List.set_cons_zero, List.set_cons_succ]
        refine reg_take (i := 8) (v := ?_) rfl (by kernel_rfl) (by kernel_rfl) (by kernel_rfl) (fun _ _ _ h => h) (Or.inl ⟨by kernel_rfl, ?_⟩) hS ?_
        rotate_left
        · (intro w' hSw; have z0 := hSw.cell 0; have z1 := hSw.cell 1; have z2 := hSw.cell 2; simp only [List.getElem?_toArray, List.getElem?_cons_zero, List.getElem?_cons_succ] at z0 z1 z2; go_simp <;> with_reducible rfl)
        try simp only [List.getElem_toArray, List.getElem_cons_succ, List.getElem_cons_zero, Act.put, List.setIfInBounds_toArray, List.set_cons_zero, List.set_cons_succ]
        refine reg_take (i := 11) (v := ?_) rfl (by kernel_rfl) (by kernel_rfl) (by kernel_rfl) (fun _ _ _ h => h) (Or.inl ⟨by kernel_rfl, ?_⟩) hS ?_
        rotate_left
        · (intro w' hSw; have z0 := hSw.cell 0; have z1 := hSw.cell 1; have z2 := hSw.cell 2; simp only [List.getElem?_toArray, List.getElem?_cons_zero, List.getElem?_cons_succ] at z0 z1 z2; go_simp <;> with_reducible rfl)
        try simp only [List.getElem_toArray, List.getElem_cons_succ, List.getElem_cons_zero, Act.put, List.setIfInBounds_toArray, List.set_cons_zero, List.set_cons_succ]
        refine reg_take (i := 12) (v := ?_) rfl (by kernel_rfl) (by kernel_rfl) (by kernel_rfl) (fun _ _ _ h => h) (Or.inl ⟨by kernel_rfl, ?_⟩) hS ?_
        rotate_left
        · (intro w' hSw; have z0 := hSw.cell 0; have z1 := hSw.cell 1; have z2 := hSw.cell 2; simp only [List.getElem?_toArray, List.getElem?_cons_zero, List.getElem?_cons_succ] at z0 z1 z2; go_simp <;> with_reducible rfl)
        try simp only [List.getElem_toArray, List.getElem_cons_succ, List.getElem_cons_zero, Act.put, List.setIfInBounds_toArray, List.set_cons_zero, List.set_cons_succ]
        refine reg_take (i := 13) (v := ?_) rfl (by kernel_rfl) (by kernel_rfl) (by kernel_rfl) (fun _ _ _ h => h) (Or.inl ⟨by kernel_rfl, ?_⟩) hS ?_
        rotate_left
        · (intro w' hSw; have z0 := hSw.cell 0; have z1 := hSw.cell 1; have z2 := hSw.cell 2; simp only [List.getElem?_toArray, List.getElem?_cons_zero, List.getElem?_cons_succ] at z0 z1 z2; go_simp <;> with_reducible rfl)
        try simp only [List.getElem_toArray, List.getElem_cons_succ, List.getElem_cons_zero, Act.put, List.setIfInBounds_toArray, List.set_cons_zero, List.set_cons_succ]
        refine run3 (tb := eTb) (tr := eTr) (jb := eJb) (ja := eJa) (tm := eTm) (tv := eTv) (t := cT) (e := cE) (zz := cZ) (by_ := fun _ => 8) (lst := eLst) (v := v) (z := zOf p) (l := colRow f k) (y := y) ?hR _ ?hsz ?hm ?hv ?h1 ?hl ?hSS 3 ?hend 6 (fun _ => .z) _ rfl ⟨(fun h => by cases h), (fun h => by cases h)⟩ HW.out
        case hR =>
          refine ⟨eSix, cElem, fun c => ?_, fun c => ?_, by unfold eTm eTv eTb eTr; decide, eLb, eLr, fun s hok hs => ?_⟩
          · match c with
            | 0 => exact ⟨_, rfl, rfl, rfl, rfl⟩
            | 1 => exact ⟨_, rfl, rfl, rfl, rfl⟩
            | 2 => exact ⟨_, rfl, rfl, rfl, rfl⟩
          · match c with
            | 0 => exact ⟨_, rfl, rfl, rfl, rfl⟩
            | 1 => exact ⟨_, rfl, rfl, rfl, rfl⟩
            | 2 => exact ⟨_, rfl, rfl, rfl, rfl⟩
          · unfold left3 at hs
            unfold eLst cnx
            unfold okc at hok
            generalize s 0 = a0 at hs hok ⊢
            generalize s 1 = a1 at hs hok ⊢
            generalize s 2 = a2 at hs hok ⊢
            cases a0 <;> cases a1 <;> cases a2 <;> first | (exfalso; simp [Sg.left] at hs; done) | (exfalso; simp [Sg.b2] at hok; done) | (clear hs hok; simp only [Sg.b1, Sg.b2, Sg.nxc, eJb, eJa, List.cons_append, List.nil_append, if_true, Bool.false_eq_true, if_false]; kernel_rfl)
        case hsz => intro c; match c with | 0 => exact (show (30 : Nat) < 79 by decide) | 1 => exact (show (36 : Nat) < 79 by decide) | 2 => exact (show (41 : Nat) < 79 by decide)
        case hm => intro c; match c with | 0 => rfl | 1 => rfl | 2 => rfl
        case hv => intro c; match c with | 0 => rfl | 1 => rfl | 2 => rfl
        case h1 => intro c; match c with | 0 => rfl | 1 => rfl | 2 => rfl
        case hl => intro c; rw [colRow_len]; unfold maxLen; omega
        case hSS => exact fun s w hW => hW.yk
        case hend =>
          clear HW hS
          intro s w3 hl0 hW
          have hS : (fun w' => Blk w' y 30 #[.int .i64 p.t, .int .i64 p.v, .int .i64 p.s]) w3 := hW.yk
          have hl := hW.last HP.out hl0
          obtain ⟨q0, u0, h0⟩ := left0 hl0 0
          obtain ⟨q1, u1, h1⟩ := left0 hl0 1
          obtain ⟨q2, u2, h2⟩ := left0 hl0 2
          have e0 : u0 = (fun c => (s c).row (v c)) 0 := by simp only [h0]; rfl
          have e1 : u1 = (fun c => (s c).row (v c)) 1 := by simp only [h1]; rfl
          have e2 : u2 = (fun c => (s c).row (v c)) 2 := by simp only [h2]; rfl
          generalize (fun c => (s c).row (v c)) = v' at hl e0 e1 e2
          have HL := Lib.hid hl
          clear hl hW hl0
          unfold act3 eLst
          rw [h0, h1, h2, puts_r, puts_r, puts_r, e0, e1, e2]
          clear h0 h1 h2 e0 e1 e2
          simp only [Sg.b1, Sg.b2, eTb, eTr, Act.put, List.setIfInBounds_toArray, List.set_cons_zero, List.set_cons_succ]
          refine reg_take (i := 16) (v := ?_) rfl (by kernel_rfl) (by kernel_rfl) (by kernel_rfl) (fun _ _ _ h => h) (Or.inl ⟨by kernel_rfl, ?_⟩) hS ?_
          rotate_left
          · (intro w' hSw; go_simp <;> with_reducible rfl)
          try simp only [List.getElem_toArray, List.getElem_cons_succ, List.getElem_cons_zero, Act.put, List.setIfInBounds_toArray, List.set_cons_zero, List.set_cons_succ]
          refine reg_take (i := 17) (v := ?_) rfl (by kernel_rfl) (by kernel_rfl) (by kernel_rfl) (fun _ _ _ h => h) (Or.inl ⟨by kernel_rfl, ?_⟩) hS ?_
          rotate_left
          · (intro w' hSw; go_simp <;> with_reducible rfl)
          try simp only [List.getElem_toArray, List.getElem_cons_succ, List.getElem_cons_zero, Act.put, List.setIfInBounds_toArray, List.set_cons_zero, List.set_cons_succ]
          refine reg_take (i := 18) (v := ?_) rfl (by kernel_rfl) (by kernel_rfl) (by kernel_rfl) (fun _ _ _ h => h) (Or.inl ⟨by kernel_rfl, ?_⟩) hS ?_
          rotate_left
          · (intro w' hSw; go_simp <;> with_reducible rfl)
          try simp only [List.getElem_toArray, List.getElem_cons_succ, List.getElem_cons_zero, Act.put, List.setIfInBounds_toArray, List.set_cons_zero, List.set_cons_succ]
          refine wpAnyH_done (by kernel_rfl) ?_ _
          try simp only [List.getElem_toArray, List.getElem_cons_succ, List.getElem_cons_zero]
          try simp only [List.getElem_toArray, List.getElem_cons_succ, List.getElem_cons_zero, Act.put, List.setIfInBounds_toArray, List.set_cons_zero, List.set_cons_succ]
          clear hS
          go_wp2_with fail
          go_roundw
          case rel => exact ⟨k + 1, v', by omega, by go_num, rfl, rfl, rfl, HL.out⟩
          case measure => simp [intOf]; omega
      · obtain rfl : k = n := by omega
        obtain ⟨A0, c0, ev0, hc0, hs0⟩ := r3_sl hR 0
        obtain ⟨A1, c1, ev1, hc1, hs1⟩ := r3_sl hR 1
        obtain ⟨A2, c2, ev2, hc2, hs2⟩ := r3_sl hR 2
        rw [ev0, ev1, ev2]
        have HK := Lib.hid hR.keep
        have H1 := Lib.hid (hs1 _ (fun j hj => col_v hj))
        have H2 := Lib.hid (hs2 _ (fun j hj => col_s hj))
        have H0 := Lib.hid (hs0 _ (fun j hj => col_t hj))
        clear hs0 hs1 hs2 ev0 ev1 ev2 hR HS
        go_wp2_with fail
        refine (D.encode_any _ _ _ _ _ (tOf f k) H0.out (tOf_range HV.out) hn4).mono ?_
        rintro e w2 ⟨B0, d0, rfl, hr0, hk0⟩
        have P0 := Lib.hid (show PartIs wr w2 B0 d0 (partA f k 0) from ⟨hr0⟩)
        have H1 := Lib.hid (H1.out.keeps hk0 (fun _ _ h => h))
        have H2 := Lib.hid (H2.out.keeps hk0 (fun _ _ h => h))
        have HK := Lib.hid (HK.out.trans' hk0)
        rw [show (pack (D.encTo (tOf f k) k)) = partA f k 0 from rfl]
        clear hr0 hk0 H0
        go_wp2_with fail
        refine (X.xencode_any _ _ _ _ _ (vOf f k) H1.out (vOf_lt f k) hn4).mono ?_
        rintro e w3 ⟨B1, d1, rfl, hr1, hk1⟩
        have P0 := Lib.hid (P0.out.keeps hk1)
        have P1 := Lib.hid (show PartIs w2 w3 B1 d1 (partA f k 1) from ⟨hr1⟩)
        have H2 := Lib.hid (H2.out.keeps hk1 (fun _ _ h => h))
        have HK := Lib.hid (HK.out.trans' hk1)
        rw [show (pack (X.xencTo (vOf f k) k)) = partA f k 1 from rfl]
        clear hr1 hk1 H1
        go_wp2_with fail
        refine (D.encode_any _ _ _ _ _ (sOf f k) H2.out (sOf_range HV.out) hn4).mono ?_
        rintro e w4 ⟨B2, d2, rfl, hr2, hk2⟩
        have P0 := Lib.hid (P0.out.keeps hk2)
        have P1 := Lib.hid (P1.out.keeps hk2)
        have P2 := Lib.hid (show PartIs w3 w4 B2 d2 (partA f k 2) from ⟨hr2⟩)
        have HK := Lib.hid (HK.out.trans' hk2)
        rw [show (pack (D.encTo (sOf f k) k)) = partA f k 2 from rfl]
        clear hr2 hk2 H2
        go_wp2_with fail
        refine (V.vput_any _ none 0 0 [] _ rfl (Sl.nil _ _ _ _) (by omega) (by omega) ?_ ?_).mono ?_
        · first | omega | (rw [IntKind.wrap_u64]; omega)
        · first | omega | (rw [IntKind.wrap_u64]; omega)
        rintro e w5 ⟨v5, rfl, hi5, hb5⟩
        have hk5 := Keeps.of_below (S := fun _ => False) hb5
        have hi5' : InIs w4 w5 v5 (colUp f k 0) := by
          have e : ([] ++ V.vput ((k : Int)).toNat) = colUp f k 0 := by simp; rfl
          unfold InIs
          first | (rw [← e]; exact hi5) | (rw [IntKind.wrap_u64] at hi5; rw [← e]; have e2 : ((k : Int) % 18446744073709551616).toNat = ((k : Int)).toNat := by omega
                                           rw [e2] at hi5; exact hi5)
        have P0 := Lib.hid (P0.out.keeps hk5)
        have P1 := Lib.hid (P1.out.keeps hk5)
        have P2 := Lib.hid (P2.out.keeps hk5)
        have HK := Lib.hid (HK.out.trans' hk5)
        have HI := Lib.hid hi5'
        have HZ := Lib.hid hk5.size
        clear hi5 hi5' hb5 hk5
        have l0 : (partA f k 0).length ≤ 40000 := partA_len f k 0 hn4
        have l1 : (partA f k 1).length ≤ 40000 := partA_len f k 1 hn4
        have l2 : (partA f k 2).length ≤ 40000 := partA_len f k 2 hn4
        have HL := Lib.hid (And.intro l0 (And.intro l1 l2))
        clear l0 l1 l2
        go_wp2_with fail
        go_loopw [15, 67] (fun v15 i wr => ∃ j : Nat, j ≤ 3 ∧ i = .int .i64 j ∧ InIs w4 wr v15 (colUp f k j) ∧ Keeps (fun _ => False) w5 wr) (fun _ i _ => 3 - (intOf i).toNat)
        case atStart => exact ⟨0, Nat.zero_le _, rfl, HI.out, Keeps.refl _ _⟩
        case round =>
          obtain ⟨j, hj, rfl, hI, hkk⟩ := hrel
          obtain ⟨A5, c5, rfl, hc5, hs5⟩ := hI.form
          have hl5 := colUp_len f k hn4 j
          have HI := Lib.hid (And.intro hs5 (And.intro hkk hl5))
          clear hI hs5 hkk hl5
          have h4 : j = 0 ∨ j = 1 ∨ j = 2 ∨ j = 3 := by omega
          rcases h4 with rfl | rfl | rfl | rfl
          ·
            rw [show ((0 : Nat) : Int) = 0 from rfl]
            have hcv := conv_sl (P := Try.prog) (c := d0) 23 5 9 Try.underlying23 Try.underlying5 Try.underlying9 (bs := partA f k 0) rfl (P0.out.keeps HI.out.2.1).sl
            obtain ⟨i0, i1, i2⟩ := index3 B0 B1 B2 (partA f k 0).length (partA f k 1).length (partA f k 2).length d0 d1 d2 wr
            go_wp2_with fail
            clear hcv i0 i1 i2
            refine (V.putText_any _ _ _ _ (colUp f k 0) _ rfl HI.out.1 hc5 ?_ ?_).mono ?_
            · have := HI.out.2.2; omega
            · rw [strB_size]; have := HL.out; omega
            rintro e w6 ⟨v6, rfl, hi6, hb6⟩
            have hk6 := Keeps.of_below (S := fun _ => False) hb6
            rw [col_up f k 0] at hi6
            have HJ := Lib.hid (And.intro (show InIs w4 w6 v6 (colUp f k (0 + 1)) from own_base hi6 (Nat.le_trans (by have := HI.out.2.1.size; have := HZ.out; omega) (Nat.le_refl _))) (HI.out.2.1.trans' hk6))
            clear hi6 hb6 hk6
            go_wp2_with fail
            go_roundw
            case rel => exact ⟨0 + 1, by omega, by go_num, HJ.out.1, HJ.out.2⟩
            case measure => simp [intOf]
          ·
            rw [show ((1 : Nat) : Int) = 1 from rfl]
            have hcv := conv_sl (P := Try.prog) (c := d1) 23 5 9 Try.underlying23 Try.underlying5 Try.underlying9 (bs := partA f k 1) rfl (P1.out.keeps HI.out.2.1).sl
            obtain ⟨i0, i1, i2⟩ := index3 B0 B1 B2 (partA f k 0).length (partA f k 1).length (partA f k 2).length d0 d1 d2 wr
            go_wp2_with fail
            clear hcv i0 i1 i2
            refine (V.putText_any _ _ _ _ (colUp f k 1) _ rfl HI.out.1 hc5 ?_ ?_).mono ?_
            · have := HI.out.2.2; omega
            · rw [strB_size]; have := HL.out; omega
            rintro e w6 ⟨v6, rfl, hi6, hb6⟩
            have hk6 := Keeps.of_below (S := fun _ => False) hb6
            rw [col_up f k 1] at hi6
            have HJ := Lib.hid (And.intro (show InIs w4 w6 v6 (colUp f k (1 + 1)) from own_base hi6 (Nat.le_trans (by have := HI.out.2.1.size; have := HZ.out; omega) (Nat.le_refl _))) (HI.out.2.1.trans' hk6))
            clear hi6 hb6 hk6
            go_wp2_with fail
            go_roundw
            case rel => exact ⟨1 + 1, by omega, by go_num, HJ.out.1, HJ.out.2⟩
            case measure => simp [intOf]
          ·
            rw [show ((2 : Nat) : Int) = 2 from rfl]
            have hcv := conv_sl (P := Try.prog) (c := d2) 23 5 9 Try.underlying23 Try.underlying5 Try.underlying9 (bs := partA f k 2) rfl (P2.out.keeps HI.out.2.1).sl
            obtain ⟨i0, i1, i2⟩ := index3 B0 B1 B2 (partA f k 0).length (partA f k 1).length (partA f k 2).length d0 d1 d2 wr
            go_wp2_with fail
            clear hcv i0 i1 i2
            refine (V.putText_any _ _ _ _ (colUp f k 2) _ rfl HI.out.1 hc5 ?_ ?_).mono ?_
            · have := HI.out.2.2; omega
            · rw [strB_size]; have := HL.out; omega
            rintro e w6 ⟨v6, rfl, hi6, hb6⟩
            have hk6 := Keeps.of_below (S := fun _ => False) hb6
            rw [col_up f k 2] at hi6
            have HJ := Lib.hid (And.intro (show InIs w4 w6 v6 (colUp f k (2 + 1)) from own_base hi6 (Nat.le_trans (by have := HI.out.2.1.size; have := HZ.out; omega) (Nat.le_refl _))) (HI.out.2.1.trans' hk6))
            clear hi6 hb6 hk6
            go_wp2_with fail
            go_roundw
            case rel => exact ⟨2 + 1, by omega, by go_num, HJ.out.1, HJ.out.2⟩
            case measure => simp [intOf]
          · rw [show ((3 : Nat) : Int) = 3 from rfl]
            go_wp2_with fail
            refine (F.seal_ok _ 3 _ _ _ _ (colUp f k 3) rfl HI.out.1 (colUp_byte f k 3) (by omega) (by have := HI.out.2.2; omega)).mono ?_
            intro e w6 hp
            obtain ⟨A6, c6, rfl, ho6, hk6⟩ := hp
            have HP := Lib.hid (And.intro ho6 hk6)
            clear ho6 hk6
            go_wp2_with fail
            go_ret2
            exact col_good HV.out (HK.out.trans' HI.out.2.1) ⟨A6, c6, rfl, HP.out.1, HP.out.2⟩
end Go.Proofs.Ytboecnakndpgfaa
