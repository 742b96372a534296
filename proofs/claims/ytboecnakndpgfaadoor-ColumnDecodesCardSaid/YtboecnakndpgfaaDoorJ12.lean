/-
  Texts of this proof, joined: ColS, ColT, ColU, EqP, ColY, ColX, ColLw.
-/
import Derived.Test.YtboecnakndpgfaaDoorJ11
import Derived.WalkKit
import Derived.WalkSpells
import Derived.WalkLawsBesides
import Derived.Outline
import Derived.Deep.Cut
import Derived.Test.YtboecnakndpgfaaDoorJ09
import Derived.Test.YtboecnakndpgfaaDoorJ02
import Derived.Test.YtboecnakndpgfaaDoorJ10
import Derived.Deep.DeepCutAuto
namespace Go.Proofs.YtboecnakndpgfaaDoor
open Go.RowKit
set_option linter.unusedVariables false
set_option linter.unusedSimpArgs false
theorem ptInfo : ∃ i, Tryd.prog.info? 34 = some i ∧ i.zero = some (.agg #[.int .i64 0, .int .i64 0, .int .i64 0]) ∧ i.size = 3 ∧ i.bytes = 24 := by
  have h : (Tryd.prog.info? 34).map (fun i => (i.zero, i.size, i.bytes)) = some (some (.agg #[.int .i64 0, .int .i64 0, .int .i64 0]), 3, 24) := by kernel_rfl
  cases hi : Tryd.prog.info? 34 with
  | none => rw [hi] at h; cases h
  | some i =>
    rw [hi] at h
    simp only [Option.map_some, Option.some.injEq, Prod.mk.injEq] at h
    exact ⟨i, rfl, h.1, h.2.1, h.2.2⟩
theorem mk_pts (W : World) (n : Nat) (f : Nat → Pt) (hn : n ≤ 4096) : ∃ w', (Instr.makeSlice 23 (.int .i64 (n : Nat)) (.int .i64 (n : Nat))).run Tryd.prog W = .ok (.slice (some ⟨W.heap.size, 0, none⟩) n n) w' ∧ RowP w' W.heap.size n 0 f ∧ Keeps (fun _ => False) W w' := by
  obtain ⟨i, h1, h2, h3, h4⟩ := ptInfo
  obtain ⟨w', hr, ho, hg⟩ := run_make_full (P := Tryd.prog) (w := W) W.heap.size 23 34 i _ 3 Tryd.underlying23 h1 h2 h3 .i64 .i64 n (by rw [h4]; omega) (by unfold maxLen; omega) (Nat.le_refl _)
  refine ⟨w', hr, ?_, (Keeps.refl _ W).grown hg (fun k hk => by cases hk)⟩
  rcases ho.2 with ⟨h5, -⟩ | ⟨g, cap, cur, h5, -, h6, -, -, h7, -⟩
  · cases h5
  · injection h5 with h5 h8 h9
    injection h5 with h5
    injection h5 with h5
    subst h5
    subst h9
    exact ⟨cur, h6, h7, fun j hj => absurd hj (Nat.not_lt_zero _)⟩
theorem setCells_blk {g : Nat} {t : TypeId} : ∀ (vs : List Value) (o : Nat) (w : World) (cur : Array Value), Blk w g t cur → o + vs.length ≤ cur.size →
    ∃ cur', Blk (w.setCells g o vs) g t cur' ∧ cur'.size = cur.size ∧ ∀ i, cur'[i]? = if o ≤ i ∧ i < o + vs.length then vs[i - o]? else cur[i]?
  | [], o, w, cur, h, hl => ⟨cur, h, rfl, fun i => by rw [if_neg (by simp)]⟩
  | v :: r, o, w, cur, h, hl => by
    obtain ⟨cur', h1, h2, h3⟩ := setCells_blk r (o + 1) (w.setCell ⟨g, o, none⟩ v) _ (h.set o v) (by simp at hl ⊢; omega)
    refine ⟨cur', h1, by rw [h2]; simp, fun i => ?_⟩
    rw [h3 i]
    simp only [List.length_cons] at hl ⊢
    by_cases h4 : i = o
    · subst h4
      rw [if_neg (by omega), if_pos (by omega), Array.getElem?_setIfInBounds, if_pos rfl, if_pos (by omega)]
      simp
    · by_cases h5 : o + 1 ≤ i ∧ i < o + 1 + r.length
      · rw [if_pos h5, if_pos (by omega)]
        obtain ⟨d, hd⟩ : ∃ d, i - o = d + 1 := ⟨i - o - 1, by omega⟩
        rw [hd, show i - (o + 1) = d by omega]
        rfl
      · rw [if_neg h5, if_neg (by omega), Array.getElem?_setIfInBounds, if_neg (by omega)]
theorem setCells_keeps {g : Nat} : ∀ (vs : List Value) (o : Nat) (w : World), Keeps (fun k => k = g) w (w.setCells g o vs)
  | [], o, w => Keeps.refl _ _
  | v :: r, o, w => ((Keeps.refl (fun k => k = g) w).setCell (p := ⟨g, o, none⟩) (fun _ => rfl) v).trans' (setCells_keeps r (o + 1) _)
/-- A row of points is copied whole. -/
theorem copy_pts (w : World) (g g2 n : Nat) (f f2 : Nat → Pt) (h : RowP w g n n f) (h2 : RowP w g2 n 0 f2) (ty : TypeId) :
    ∃ w', (Builtin.copy_ #[23, 23] ty #[.slice (some ⟨g2, 0, none⟩) n n, .slice (some ⟨g, 0, none⟩) n n]).run Tryd.prog w = .ok (goInt n) w' ∧ RowP w' g2 n n f ∧ Keeps (fun k => k = g2) w w' := by
  obtain ⟨cur, c1, c2, c3⟩ := h.blk
  obtain ⟨cur2, d1, d2, -⟩ := h2.blk
  have hl : cur.toList.length = n * 3 := by simpa using c2
  obtain ⟨i, h1, -, h3, -⟩ := ptInfo
  have hone : ∀ v ∈ cur.toList, v.oneCell' = true := fun v hv => by
    obtain ⟨j, hj, rfl⟩ := List.mem_iff_getElem.1 hv
    obtain ⟨k0, k1, k2⟩ := c3 (j / 3) (by omega)
    have e : cur.toList[j]? = cur[j]? := by simp
    have e2 : cur.toList[j]? = some cur.toList[j] := List.getElem?_eq_getElem hj
    have h4 : j = j / 3 * 3 ∨ j = j / 3 * 3 + 1 ∨ j = j / 3 * 3 + 2 := by omega
    rw [e2] at e
    rcases h4 with h4 | h4 | h4
    · have k := (congrArg (fun x => cur[x]?) h4).trans k0
      rw [Option.some.inj (e.trans k)]; rfl
    · have k := (congrArg (fun x => cur[x]?) h4).trans k1
      rw [Option.some.inj (e.trans k)]; rfl
    · have k := (congrArg (fun x => cur[x]?) h4).trans k2
      rw [Option.some.inj (e.trans k)]; rfl
  have hadd : ∀ j, (⟨g, 0, none⟩ : Addr).add j = ⟨g, 0 + j, none⟩ := fun j => by unfold Addr.add; split <;> simp_all
  have hrun := run_copy_wide (P := Tryd.prog) w 23 23 ty 34 g2 n n ⟨g, 0, none⟩ n n 3 cur.toList Tryd.underlying23 (by rw [h1]; simp [h3]) (by rw [hl]; simp)
    (fun j v hj => by rw [hadd, Nat.zero_add, c1.cell j]; simpa using hj) (fun j hj => by rw [Nat.zero_add, d1.cell j]; rw [Array.getElem?_eq_getElem (by omega)]; rfl) (fun j hj => d1.frozen _) hone
  rw [show Nat.min n n = n from Nat.min_self n] at hrun
  obtain ⟨cur', e1, e2, e3⟩ := setCells_blk cur.toList 0 w cur2 d1 (by omega)
  refine ⟨_, hrun, ⟨cur', e1, by omega, fun j hj => ?_⟩, setCells_keeps _ _ _⟩
  obtain ⟨k0, k1, k2⟩ := c3 j hj
  rw [e3, e3, e3, if_pos (by omega), if_pos (by omega), if_pos (by omega)]
  simp only [Nat.sub_zero, Array.getElem?_toList]
  exact ⟨k0, k1, k2⟩
end Go.Proofs.YtboecnakndpgfaaDoor
namespace Go.Proofs.YtboecnakndpgfaaDoor
open Go.RowKit
set_option linter.unusedVariables false
set_option linter.unusedSimpArgs false
theorem RowP.sl {w : World} {g n : Nat} {f : Nat → Pt} {D : Nat → Prop} (h : RowP w g n n f) (hg : D g) : SlP w D (some ⟨g, 0, none⟩) n f := fun _ => by
  obtain ⟨cur, h1, -, h3⟩ := h.blk
  refine ⟨g, 0, rfl, hg, fun j hj => ?_⟩
  rw [Nat.zero_add, h1.cell, h1.cell, h1.cell]
  exact h3 j hj
def PtsPost (w : World) (n : Nat) (f : Nat → Pt) (e : Ending) (w' : World) : Prop :=
  ∃ A c, e = .returned (.slice A n c) ∧ n ≤ c ∧ SlP w' (fun k => w.heap.size ≤ k) A n f ∧ Keeps (fun _ => False) w w'
set_option maxRecDepth 100000 in
set_option maxHeartbeats 1500000 in
theorem points_any (w : World) (xt xv xs n : Nat) (t : Nat → Int) (v : Nat → Nat) (s : Nat → Int) (hc : CapIs w xt xv xs n t v s) (hn : n ≤ 4096) :
    Calls Tryd.prog 18 #[.agg #[.int .i64 n, capV xt xv xs]] w (PtsPost w n (fun j => ⟨t j, IntKind.i64.wrap (v j : Nat), s j⟩)) := by
  obtain ⟨f, hf⟩ : ∃ f : Nat → Pt, f = fun j => ⟨t j, IntKind.i64.wrap (v j : Nat), s j⟩ := ⟨_, rfl⟩
  rw [← hf]
  obtain ⟨xb, hxb⟩ : ∃ x, x = w.heap.size := ⟨_, rfl⟩
  obtain ⟨w1, hr1, hp1, hk1⟩ := mk_pts (w.alloc (.cells #[.int .i64 n, capV xt xv xs] 54)) n f hn
  have hb1 := (Blk.fresh w 54 #[.int .i64 n, capV xt xv xs]).keeps hk1 (fun h => h)
  have hk := ((Keeps.refl (fun _ => False) w).alloc (.cells #[.int .i64 n, capV xt xv xs] 54)).trans' hk1
  obtain ⟨g, hg⟩ : ∃ g, g = w.heap.size + 1 := ⟨_, rfl⟩
  have hge : (w.alloc (.cells #[.int .i64 n, capV xt xv xs] 54)).heap.size = g := by rw [hg]; simp
  rw [hge] at hp1
  have HP := Lib.hid (And.intro hf (And.intro hxb (And.intro hp1 (And.intro hb1 (And.intro hk (And.intro hg hc))))))
  clear hf hxb hp1 hb1 hk hk1 hge hg hc
  unfold capV at hr1 HP ⊢
  go_enter Tryd.func18, Tryd.ntmps18
  go_wp2_with fail
  have HK := HP
  go_loopw [4, 11] (fun i4 i wr => ∃ k : Nat, k ≤ n ∧ i = .int .i64 k ∧ RowP wr g n k f ∧ Keeps (fun _ => False) w wr ∧ Blk wr w.heap.size 54 #[.int .i64 n, .func (.func 17) #[] #[.pointer (some ⟨xt, 0, none⟩), .pointer (some ⟨xv, 0, none⟩), .pointer (some ⟨xs, 0, none⟩)]]) (fun _ i _ => n - (intOf i).toNat)
  case atStart => exact ⟨0, Nat.zero_le _, rfl, HP.out.2.2.1, HP.out.2.2.2.2.1, HP.out.2.2.2.1⟩
  case round =>
    obtain ⟨k, hk, rfl, hrow, hkp, hbx⟩ := hrel
    by_cases hlt : k < n
    · have z0 := hbx.cell 0
      have z1 := hbx.cell 1
      simp only [List.getElem?_toArray, List.getElem?_cons_zero, List.getElem?_cons_succ] at z0 z1
      have HB := Lib.hid (And.intro hrow (And.intro hkp hbx))
      clear hrow hkp hbx
      go_wp2_with fail
      obtain ⟨z, hz⟩ : ∃ z, z = IntKind.i64.wrap (v k : Nat) := ⟨_, rfl⟩
      have hclo := clo_at wr xt xv xs n k t v s (HP.out.2.2.2.2.2.2.below HB.out.2.1.to_below) hlt
      rw [← hz] at hclo
      have HZ := Lib.hid hz
      clear hz
      refine hclo.mono ?_
      clear hclo
      rintro e w2 ⟨rfl, hb2⟩
      obtain ⟨cur, q1, q2, -⟩ := (HB.out.1.below hb2).blk
      have r0 : w2.cell? ⟨g, k * 3, none⟩ = some cur[k * 3] := by rw [q1.cell, Array.getElem?_eq_getElem (by omega)]
      have r1 : w2.cell? ⟨g, k * 3 + 1, none⟩ = some cur[k * 3 + 1] := by rw [q1.cell, Array.getElem?_eq_getElem (by omega)]
      have r2 : w2.cell? ⟨g, k * 3 + 2, none⟩ = some cur[k * 3 + 2] := by rw [q1.cell, Array.getElem?_eq_getElem (by omega)]
      have rf := q1.frozen
      rw [HP.out.2.2.2.2.2.1] at r0 r1 r2 rf
      generalize cur[k * 3] = u0 at r0
      generalize cur[k * 3 + 1] = u1 at r1
      generalize cur[k * 3 + 2] = u2 at r2
      have H2 := Lib.hid hb2
      clear q1 q2 hb2
      go_wp2_with fail
      go_roundw
      case rel =>
        refine ⟨k + 1, by omega, by go_num, ?_, ?_, ?_⟩
        · have h := (HB.out.1.below H2.out).put (p := ⟨t k, z, s k⟩) hlt (by rw [HP.out.1, HZ.out])
          rw [HP.out.2.2.2.2.2.1] at h ⊢
          exact h
        · exact (((HB.out.2.1.trans' (Keeps.of_below H2.out)).setCell (fun (h : w.heap.size + 1 < w.heap.size) => absurd h (by omega)) _).setCell (fun (h : w.heap.size + 1 < w.heap.size) => absurd h (by omega)) _).setCell (fun (h : w.heap.size + 1 < w.heap.size) => absurd h (by omega)) _
        · exact (((HB.out.2.2.below H2.out HB.out.2.2.lt).far (by simp) _).far (by simp) _).far (by simp) _
      case measure => simp [intOf]; omega
    · obtain rfl : k = n := by omega
      obtain ⟨w3, hr3, hp3, hk3⟩ := mk_pts wr k f hn
      obtain ⟨w4, hr4, hp4, hk4⟩ := copy_pts w3 g wr.heap.size k f f (hrow.below hk3.to_below) hp3 3
      rw [HP.out.2.2.2.2.2.1] at hr4
      have hks := hkp.size
      have HR := Lib.hid (And.intro hp4 ((hkp.trans' hk3).trans hk4 (fun x hx e => by omega)))
      have HG := Lib.hid hks
      clear hp3 hk3 hp4 hk4 hrow hkp hbx hks
      go_wp2_with fail
      go_ret
      exact ⟨_, k, rfl, Nat.le_refl _, HR.out.1.sl HG.out, HR.out.2⟩
end Go.Proofs.YtboecnakndpgfaaDoor
namespace Go.Proofs.YtboecnakndpgfaaDoor
open Go.RowKit
set_option linter.unusedVariables false
set_option linter.unusedSimpArgs false
/-- What decoding a block answers: its points, or 24. -/
def CDecPost (b : List Nat) (w : World) (e : Ending) (w' : World) : Prop :=
  Keeps (fun _ => False) w w' ∧
    ((∃ (A : Option Addr) (n c : Nat) (f : Nat → Pt), e = .returned (.tuple #[.slice A n c, .int .i64 0]) ∧ n ≤ c ∧ SlP w' (fun k => w.heap.size ≤ k) A n f ∧ IsEnc b f n ∧ ∀ j, I64 (f j).v) ∨
     (e = .returned (.tuple #[.slice none 0 0, .int .i64 24]) ∧ NotEnc b))
theorem not_parts {b : List Nat} (h : ¬ Parts b) : NotEnc b := fun f n hE => h (parts_of_enc hE.1 hE.2).1
theorem not_t {b : List Nat} (h : (D.decA (cPt (F.openI b) 0) ((V.vget (F.openI b)).1 : Nat)).2 ≠ 0) : NotEnc b := fun f n hE => by
  obtain ⟨-, h1, h2, -, -⟩ := parts_of_enc hE.1 hE.2
  rw [h1, h2] at h
  exact h rfl
theorem not_s {b : List Nat} (h : (D.decA (cPt (F.openI b) 2) ((V.vget (F.openI b)).1 : Nat)).2 ≠ 0) : NotEnc b := fun f n hE => by
  obtain ⟨-, h1, -, -, h2⟩ := parts_of_enc hE.1 hE.2
  rw [h1, h2] at h
  exact h rfl
theorem not_v {b : List Nat} (h : X.decXA (cPt (F.openI b) 1) ((V.vget (F.openI b)).1 : Nat) = none) : NotEnc b := fun f n hE => by
  obtain ⟨-, h1, -, h2, -⟩ := parts_of_enc hE.1 hE.2
  rw [h1, h2] at h
  cases h
theorem not_valid {b : List Nat} {ts : List Int} {vs : List Nat} {ss : List Int} (h0 : D.decA (cPt (F.openI b) 0) ((V.vget (F.openI b)).1 : Nat) = (ts, 0)) (h1 : X.decXA (cPt (F.openI b) 1) ((V.vget (F.openI b)).1 : Nat) = some vs)
    (h2 : D.decA (cPt (F.openI b) 2) ((V.vget (F.openI b)).1 : Nat) = (ss, 0)) (hv : colV (gP ts vs ss) (V.vget (F.openI b)).1 = false) : NotEnc b := fun f n hE => by
  obtain ⟨-, k, e0, e1, e2⟩ := parts_of_enc hE.1 hE.2
  rw [k] at h0 h1 h2 hv
  rw [e0] at h0
  rw [e1] at h1
  rw [e2] at h2
  injection h0 with h0 _
  injection h1 with h1
  injection h2 with h2 _
  subst h0
  subst h1
  subst h2
  have := colV_ts (f := gP (D.upTo (tOf f n) n) (X.upToN (vOf f n) n) (D.upTo (sOf f n) n)) (g := f) n (fun j hj => ⟨(gP_enc f n j hj).1, (gP_enc f n j hj).2.1⟩)
  rw [this, hE.1] at hv
  cases hv
end Go.Proofs.YtboecnakndpgfaaDoor
namespace Go.Proofs.YtboecnakndpgfaaDoor
def eqP (p q : Pt) : Bool := p.t == q.t && (p.v == q.v && p.s == q.s)
theorem eqP_self (p : Pt) : eqP p p = true := by unfold eqP; simp
theorem eqP_iff (p q : Pt) : eqP p q = true ↔ p = q := by
  obtain ⟨a, b, c⟩ := p
  obtain ⟨a', b', c'⟩ := q
  unfold eqP
  simp
theorem eqP_run (p q : Pt) (w : World) : (if p.t = q.t then if p.v = q.v then if p.s = q.s then Result.ok (Next.value (Value.bool true)) w else Result.ok (Next.value (Value.bool false)) w
    else Result.ok (Next.value (Value.bool false)) w else Result.ok (Next.value (Value.bool false)) w) = Result.ok (Next.value (Value.bool (eqP p q))) w := by
  unfold eqP
  by_cases h1 : p.t = q.t
  · by_cases h2 : p.v = q.v
    · by_cases h3 : p.s = q.s
      · simp [h1, h2, h3]
      · simp [h1, h2, h3]
    · simp [h1, h2]
  · simp [h1]
end Go.Proofs.YtboecnakndpgfaaDoor
namespace Go.Proofs.YtboecnakndpgfaaDoor
open Go.RowKit
set_option linter.unusedVariables false
set_option linter.unusedSimpArgs false
def allEq (f g : Nat → Pt) : Nat → Bool
  | 0 => true
  | n + 1 => allEq f g n && eqP (f n) (g n)
def sameL (f g : Nat → Pt) (n m : Nat) : Bool := decide (n = m) && allEq f g n
theorem allEq_not {f g : Nat → Pt} {k : Nat} (h : eqP (f k) (g k) = false) : ∀ n, k < n → allEq f g n = false
  | 0, hk => absurd hk (Nat.not_lt_zero k)
  | n + 1, hk => by
    show (allEq f g n && eqP (f n) (g n)) = false
    rcases Nat.lt_or_ge k n with h1 | h1
    · rw [allEq_not h n h1]; rfl
    · obtain rfl : k = n := by omega
      rw [h]; simp
theorem allEq_of {f g : Nat → Pt} : ∀ n, (∀ j, j < n → f j = g j) → allEq f g n = true
  | 0, _ => rfl
  | n + 1, h => by
    show (allEq f g n && eqP (f n) (g n)) = true
    rw [allEq_of n (fun j hj => h j (by omega)), h n (by omega), eqP_self]; rfl
theorem sameL_of {f g : Nat → Pt} {n m : Nat} (hn : n = m) (h : ∀ j, j < n → f j = g j) : sameL f g n m = true := by
  unfold sameL
  rw [allEq_of n h]; simp [hn]
theorem eqPn_run (p q : Pt) (w : World) : (if p.t = q.t then if p.v = q.v then if p.s = q.s then Result.ok (Next.value (Value.bool false)) w else Result.ok (Next.value (Value.bool true)) w
    else Result.ok (Next.value (Value.bool true)) w else Result.ok (Next.value (Value.bool true)) w) = Result.ok (Next.value (Value.bool (!eqP p q))) w := by
  unfold eqP
  by_cases h1 : p.t = q.t
  · by_cases h2 : p.v = q.v
    · by_cases h3 : p.s = q.s
      · simp [h1, h2, h3]
      · simp [h1, h2, h3]
    · simp [h1, h2]
  · simp [h1]
set_option maxRecDepth 100000 in
set_option maxHeartbeats 4000000 in
theorem same_any (A B : Option Addr) (n m c d : Nat) (f g : Nat → Pt) (D E : Nat → Prop) (w : World) (h1 : SlP w D A n f) (h2 : SlP w E B m g) (hn : n ≤ 9223372036854775807) (hm : m ≤ 9223372036854775807) :
    Calls Tryd.prog 11 #[.slice A n c, .slice B m d] w (BoolPost (sameL f g n m) w) := by
  have HO := Lib.hid (And.intro h1 h2)
  clear h1 h2
  go_enter Tryd.func11, Tryd.ntmps11
  by_cases hnm : n = m
  · subst hnm
    have d0 : ((n : Int) != (n : Int)) = false := by simp
    have HT := Lib.hid (show sameL f g n n = allEq f g n by unfold sameL; simp)
    go_wp2_with fail
    go_loopw [5] (fun i wr => ∃ k : Nat, k ≤ n ∧ i = .int .i64 k ∧ allEq f g k = true ∧ Own w [] wr) (fun i _ => n - (intOf i).toNat)
    case atStart => exact ⟨0, Nat.zero_le _, rfl, rfl, Own.start w⟩
    case round =>
      obtain ⟨k, hk, rfl, hall, hS⟩ := hrel
      have HA := Lib.hid hall
      clear hall
      by_cases hlt : k < n
      · obtain ⟨b, off, rfl, -, hc⟩ := HO.out.1 (by omega)
        obtain ⟨b', off', rfl, -, hc'⟩ := HO.out.2 (by omega)
        have hc := hc k hlt
        have hc' := hc' k hlt
        have HN := Lib.hid (fun h => allEq_not (f := f) (g := g) (k := k) h n hlt)
        have HY := Lib.hid (show allEq f g (k + 1) = (allEq f g k && eqP (f k) (g k)) from rfl)
        generalize f k = p at hc HN HY
        generalize g k = q at hc' HN HY
        have HC := Lib.hid (show ∀ w', Own w [] w' → (w'.cell? ⟨b, off + k * 3, none⟩ = some (.int .i64 p.t) ∧ w'.cell? ⟨b, off + k * 3 + 1, none⟩ = some (.int .i64 p.v) ∧ w'.cell? ⟨b, off + k * 3 + 2, none⟩ = some (.int .i64 p.s)) ∧
            w'.cell? ⟨b', off' + k * 3, none⟩ = some (.int .i64 q.t) ∧ w'.cell? ⟨b', off' + k * 3 + 1, none⟩ = some (.int .i64 q.v) ∧ w'.cell? ⟨b', off' + k * 3 + 2, none⟩ = some (.int .i64 q.s) from fun w' hw =>
          have old : ∀ {a : Addr} {u : Value}, w.cell? a = some u → w'.cell? a = some u := fun {a u} h => (World.cell?_of_block (w := w) (a := a) (hw.bel.block a.block (World.block_lt_of_cell? w _ h))).trans h
          ⟨⟨old hc.1, old hc.2.1, old hc.2.2⟩, old hc'.1, old hc'.2.1, old hc'.2.2⟩)
        clear hc hc'
        have HS := Lib.hid hS
        clear hS
        go_upto_region 6 with (fail)
        have hS : (Own w []) (_) := HS.out.drew
        refine reg_start (Own w []) (by kernel_rfl) hS ?_
        refine reg_take (i := 0) (v := ?_) rfl (by kernel_rfl) (by kernel_rfl) (by kernel_rfl) (fun _ _ _ h => h) (Or.inl ⟨by kernel_rfl, ?_⟩) hS ?_
        rotate_left
        · (intro w' hSw; obtain ⟨⟨c0, c1, c2⟩, c3, c4, c5⟩ := HC.out w' hSw; go_simp <;> with_reducible rfl)
        try simp only [List.getElem_toArray, List.getElem_cons_succ, List.getElem_cons_zero, Act.put, List.setIfInBounds_toArray, List.set_cons_zero, List.set_cons_succ]
        refine reg_take (i := 1) (v := ?_) rfl (by kernel_rfl) (by kernel_rfl) (by kernel_rfl) (fun _ _ _ h => h) (Or.inl ⟨by kernel_rfl, ?_⟩) hS ?_
        rotate_left
        · (intro w' hSw; obtain ⟨⟨c0, c1, c2⟩, c3, c4, c5⟩ := HC.out w' hSw; go_simp <;> with_reducible rfl)
        try simp only [List.getElem_toArray, List.getElem_cons_succ, List.getElem_cons_zero, Act.put, List.setIfInBounds_toArray, List.set_cons_zero, List.set_cons_succ]
        refine reg_take (i := 2) (v := ?_) rfl (by kernel_rfl) (by kernel_rfl) (by kernel_rfl) (fun _ _ _ h => h) (Or.inl ⟨by kernel_rfl, ?_⟩) hS ?_
        rotate_left
        · (intro w' hSw; obtain ⟨⟨c0, c1, c2⟩, c3, c4, c5⟩ := HC.out w' hSw; go_simp <;> with_reducible rfl)
        try simp only [List.getElem_toArray, List.getElem_cons_succ, List.getElem_cons_zero, Act.put, List.setIfInBounds_toArray, List.set_cons_zero, List.set_cons_succ]
        refine reg_take (i := 3) (v := ?_) rfl (by kernel_rfl) (by kernel_rfl) (by kernel_rfl) (fun _ _ _ h => h) (Or.inl ⟨by kernel_rfl, ?_⟩) hS ?_
        rotate_left
        · (intro w' hSw; obtain ⟨⟨c0, c1, c2⟩, c3, c4, c5⟩ := HC.out w' hSw; go_simp <;> with_reducible rfl)
        try simp only [List.getElem_toArray, List.getElem_cons_succ, List.getElem_cons_zero, Act.put, List.setIfInBounds_toArray, List.set_cons_zero, List.set_cons_succ]
        refine reg_take (i := 4) (v := ?_) rfl (by kernel_rfl) (by kernel_rfl) (by kernel_rfl) (fun _ _ _ h => h) (Or.inl ⟨by kernel_rfl, ?_⟩) hS ?_
        rotate_left
        · (intro w' hSw; obtain ⟨⟨c0, c1, c2⟩, c3, c4, c5⟩ := HC.out w' hSw; go_simp <;> with_reducible rfl)
        try simp only [List.getElem_toArray, List.getElem_cons_succ, List.getElem_cons_zero, Act.put, List.setIfInBounds_toArray, List.set_cons_zero, List.set_cons_succ]
        refine reg_take (i := 5) (v := ?_) rfl (by kernel_rfl) (by kernel_rfl) (by kernel_rfl) (fun _ _ _ h => h) (Or.inl ⟨by kernel_rfl, ?_⟩) hS ?_
        rotate_left
        · (intro w' hSw; obtain ⟨⟨c0, c1, c2⟩, c3, c4, c5⟩ := HC.out w' hSw; go_simp <;> with_reducible rfl)
        try simp only [List.getElem_toArray, List.getElem_cons_succ, List.getElem_cons_zero, Act.put, List.setIfInBounds_toArray, List.set_cons_zero, List.set_cons_succ]
        refine reg_take (i := 6) (v := ?_) rfl (by kernel_rfl) (by kernel_rfl) (by kernel_rfl) (fun _ _ _ h => h) (Or.inl ⟨by kernel_rfl, ?_⟩) hS ?_
        rotate_left
        · (intro w' hSw; obtain ⟨⟨c0, c1, c2⟩, c3, c4, c5⟩ := HC.out w' hSw; go_simp <;> with_reducible rfl)
        try simp only [List.getElem_toArray, List.getElem_cons_succ, List.getElem_cons_zero, Act.put, List.setIfInBounds_toArray, List.set_cons_zero, List.set_cons_succ]
        refine reg_take (i := 7) (v := ?_) rfl (by kernel_rfl) (by kernel_rfl) (by kernel_rfl) (fun _ _ _ h => h) (Or.inl ⟨by kernel_rfl, ?_⟩) hS ?_
        rotate_left
        · (intro w' hSw; obtain ⟨⟨c0, c1, c2⟩, c3, c4, c5⟩ := HC.out w' hSw; go_simp <;> with_reducible rfl)
        try simp only [List.getElem_toArray, List.getElem_cons_succ, List.getElem_cons_zero, Act.put, List.setIfInBounds_toArray, List.set_cons_zero, List.set_cons_succ]
        refine reg_take (i := 8) (v := .bool (!eqP p q)) rfl (by kernel_rfl) (by kernel_rfl) (by kernel_rfl) (fun _ _ _ h => h) (Or.inl ⟨by kernel_rfl, ?_⟩) hS ?_
        · (intro w' hSw; go_simp; exact eqPn_run _ _ _)
        try simp only [List.getElem_toArray, List.getElem_cons_succ, List.getElem_cons_zero, Act.put, List.setIfInBounds_toArray, List.set_cons_zero, List.set_cons_succ]
        refine wpAnyH_done (by kernel_rfl) ?_ _
        try simp only [List.getElem_toArray, List.getElem_cons_succ, List.getElem_cons_zero]
        try simp only [List.getElem_toArray, List.getElem_cons_succ, List.getElem_cons_zero, Act.put, List.setIfInBounds_toArray, List.set_cons_zero, List.set_cons_succ]
        have HP := Lib.hid hS
        clear hS HS
        cases he : eqP p q with
        | false =>
          have HF := Lib.hid (show sameL f g n n = false by rw [HT.out, HN.out he])
          simp only [he, Bool.not_false]
          go_wp2_with fail
          go_ret
          exact ⟨by rw [HF.out]; rfl, HP.out.bel⟩
        | true =>
          have HF := Lib.hid (show allEq f g (k + 1) = true by rw [HY.out, HA.out, he]; rfl)
          simp only [he, Bool.not_true]
          go_wp2_with fail
          go_roundw
          case rel => exact ⟨k + 1, by omega, by go_num, HF.out, HP.out⟩
          case measure => simp [intOf]; omega
      · obtain rfl : k = n := by omega
        have HB := Lib.hid hS.bel
        clear hS
        go_wp2_with fail
        go_ret
        exact ⟨by rw [HT.out, HA.out]; rfl, HB.out⟩
  · have d0 : ((n : Int) != (m : Int)) = true := by simp; omega
    have HT := Lib.hid (show sameL f g n m = false by unfold sameL; simp [hnm])
    have d1 : ¬ (n : Int) = (m : Int) := by omega
    go_wp2_with fail
    go_ret
    exact ⟨by rw [HT.out]; rfl, Below.refl _ _⟩
end Go.Proofs.YtboecnakndpgfaaDoor
namespace Go.Proofs.YtboecnakndpgfaaDoor
open Go.RowKit
set_option linter.unusedVariables false
set_option linter.unusedSimpArgs false
theorem parts_byte {b : List Nat} (hIb : ∀ j, (F.openI b).getD j 0 < 256) (hP : Parts b) (j : Nat) (hj : j < 3) : (∀ i, (cPt (F.openI b) j).getD i 0 < 256) ∧ (cPt (F.openI b) j).length ≤ 1048576 := by
  obtain ⟨k1, k2, k3⟩ := vtext_get (l := (F.openI b).drop (cAt (F.openI b) j)) (most := 1048576) (V.getD_drop_lt hIb _) (hP.t j hj)
  refine ⟨V.getD_all_lt (fun x hx => ?_), by unfold cPt; omega⟩
  have hm : x ∈ ((F.openI b).drop (cAt (F.openI b) j)).take (V.vtext ((F.openI b).drop (cAt (F.openI b) j)) 1048576).2.1 := by rw [k2]; exact List.mem_append_right _ hx
  exact F.mem_byte hIb x (List.mem_of_mem_drop (List.mem_of_mem_take hm))
theorem row_i {w : World} {base n c : Nat} {A : Option Addr} {l : List Int} (ho : w.ownsRow base 3 1 (.slice A n c) n (l.map D.intZ)) (hl : l.length = n) : Sl w (fun k => base ≤ k) A n (fun j => .int .i64 (l.getD j 0)) := by
  have h := Sl.of_own (f := fun j => .int .i64 (l.getD j 0)) ho (fun j u hu => by
    rw [List.getElem?_map] at hu
    cases hj : l[j]? with
    | none => rw [hj] at hu; cases hu
    | some x => rw [hj] at hu; injection hu with hu; rw [List.getD_eq_getElem?_getD, hj]; exact hu.symm)
  exact h.mono (fun k hk => (ho.lt k hk).1)
theorem row_u {w : World} {base n c : Nat} {A : Option Addr} {l : List Nat} (ho : w.ownsRow base 51 1 (.slice A n c) n (l.map X.u64V)) (hl : l.length = n) : Sl w (fun k => base ≤ k) A n (fun j => .int .u64 (l.getD j 0 : Nat)) := by
  have h := Sl.of_own (f := fun j => .int .u64 (l.getD j 0 : Nat)) ho (fun j u hu => by
    rw [List.getElem?_map] at hu
    cases hj : l[j]? with
    | none => rw [hj] at hu; cases hu
    | some x => rw [hj] at hu; injection hu with hu; rw [List.getD_eq_getElem?_getD, hj]; exact hu.symm)
  exact h.mono (fun k hk => (ho.lt k hk).1)
theorem cap_of {w : World} {x y z n a b c : Nat} {A B C : Option Addr} {D E F : Nat → Prop} {ts : List Int} {vs : List Nat} {ss : List Int} (h0 : w.cell? ⟨x, 0, none⟩ = some (.slice A n a)) (h1 : w.cell? ⟨y, 0, none⟩ = some (.slice B n b)) (h2 : w.cell? ⟨z, 0, none⟩ = some (.slice C n c))
    (s0 : Sl w D A n (fun j => .int .i64 (ts.getD j 0))) (s1 : Sl w E B n (fun j => .int .u64 (vs.getD j 0 : Nat))) (s2 : Sl w F C n (fun j => .int .i64 (ss.getD j 0))) : CapIs w x y z n (fun j => ts.getD j 0) (fun j => vs.getD j 0) (fun j => ss.getD j 0) := fun hn => by
  obtain ⟨b0, o0, rfl, -, q0⟩ := s0 hn
  obtain ⟨b1, o1, rfl, -, q1⟩ := s1 hn
  obtain ⟨b2, o2, rfl, -, q2⟩ := s2 hn
  exact ⟨b0, o0, a, b1, o1, b, b2, o2, c, h0, h1, h2, fun j hj => ⟨q0 j hj, q1 j hj, q2 j hj⟩⟩
set_option maxRecDepth 100000 in
set_option maxHeartbeats 2000000 in
theorem cdecode_any (w : World) (A : Option Addr) (len c : Nat) (D0 : Nat → Prop) (b : List Nat) (hl : b.length = len) (hsl : Sl w D0 A len (byteC b)) (hb : ∀ j, b.getD j 0 < 256) (hlen : len ≤ 1048576) (hlc : len ≤ c) (hv : V.HErr w) :
    Calls Tryd.prog 8 #[.slice A len c] w (CDecPost b w) := by
  have HS := Lib.hid (And.intro hl (And.intro hsl (And.intro hb hv)))
  clear hl hsl hb hv
  go_enter Tryd.func8, Tryd.ntmps8
  go_wp2_with fail
  refine (parts_any _ _ _ _ D0 b HS.out.1 HS.out.2.1 HS.out.2.2.1 hlen hlc HS.out.2.2.2).mono ?_
  rintro e w1 ⟨n, y, pv, ok, rfl, hk, hshp, hyes, hno⟩
  cases ok with
  | false =>
    obtain ⟨B0, n0, k0, e0⟩ := hshp 0
    obtain ⟨B1, n1, k1, e1⟩ := hshp 1
    obtain ⟨B2, n2, k2, e2⟩ := hshp 2
    rw [e0, e1, e2]
    have HN := Lib.hid (And.intro hk (not_parts (hno rfl)))
    clear hyes hno hk hshp e0 e1 e2
    go_wp2_with fail
    go_ret2
    exact ⟨HN.out.1.alloc _, .inr ⟨rfl, HN.out.2⟩⟩
  | true =>
    obtain ⟨hP, rfl, hpt⟩ := hyes rfl
    have hIb := openI_byte HS.out.2.2.1
    have b0 := parts_byte hIb hP 0 (by omega)
    have b1 := parts_byte hIb hP 1 (by omega)
    have b2 := parts_byte hIb hP 2 (by omega)
    obtain ⟨p, hp⟩ : ∃ p : Nat → List Nat, p = cPt (F.openI b) := ⟨_, rfl⟩
    rw [← hp] at b0 b1 b2 hpt
    obtain ⟨B0, c0, e0, s0⟩ := hpt 0
    obtain ⟨B1, c1, e1, s1⟩ := hpt 1
    obtain ⟨B2, c2, e2, s2⟩ := hpt 2
    rw [e0, e1, e2]
    have s0 : Sl w1 (fun k => y < k) B0 (p 0).length (byteC (p 0)) := s0
    have s1 : Sl w1 (fun k => y < k) B1 (p 1).length (byteC (p 1)) := s1
    have s2 : Sl w1 (fun k => y < k) B2 (p 2).length (byteC (p 2)) := s2
    obtain ⟨l0, hl0⟩ : ∃ l, l = (p 0).length := ⟨_, rfl⟩
    obtain ⟨l1, hl1⟩ : ∃ l, l = (p 1).length := ⟨_, rfl⟩
    obtain ⟨l2, hl2⟩ : ∃ l, l = (p 2).length := ⟨_, rfl⟩
    rw [show (p (0 : Fin 3).val).length = l0 from hl0.symm, show (p (1 : Fin 3).val).length = l1 from hl1.symm, show (p (2 : Fin 3).val).length = l2 from hl2.symm]
    rw [← hl0] at s0 b0
    rw [← hl1] at s1 b1
    rw [← hl2] at s2 b2
    have hM := hP.m
    obtain ⟨M, hMe⟩ : ∃ M, M = (V.vget (F.openI b)).1 := ⟨_, rfl⟩
    rw [← hMe] at hM
    rw [← hMe]
    obtain ⟨x, hx⟩ : ∃ x, x = w1.heap.size := ⟨_, rfl⟩
    have o1 := Own.own1 w1 hx 42 #[.slice B0 l0 c0, .slice B1 l1 c1, .slice B2 l2 c2]
    have HX := Lib.hid (And.intro hx o1)
    have HQ := Lib.hid (And.intro hP (And.intro hk (And.intro hp (And.intro hIb hMe))))
    have H0 := Lib.hid (And.intro b0 (And.intro s0 hl0.symm))
    have H1 := Lib.hid (And.intro b1 (And.intro s1 hl1.symm))
    have H2 := Lib.hid (And.intro b2 (And.intro s2 hl2.symm))
    clear hx o1 hP hk hp hIb hMe b0 s0 b1 s1 b2 s2 hyes hno hshp hpt e0 e1 e2 hl0 hl1 hl2
    go_upto_region 4 with (fail)
    rw [← HX.out.1]
    refine wp_gen (Own w1 [(x, 42, #[.slice B0 l0 c0, .slice B1 l1 c1, .slice B2 l2 c2])]) HX.out.2 ?_
    intro w2 hS
    have z0_0 := hS.cell 0 0 rfl rfl; have z0_1 := hS.cell 0 1 rfl rfl; have z0_2 := hS.cell 0 2 rfl rfl
    have HS2 := Lib.hid hS
    clear hS
    go_wp2_with fail
    refine (D.decode_any w2 B0 _ c0 (fun k => y < k) (p 0) M H0.out.2.2 (H0.out.2.1.keeps HS2.out.keeps (fun _ _ h => h)) H0.out.1.1 H0.out.1.2).mono ?_
    rintro e w3 ⟨T0, d0, rfl, ho0, hk3⟩
    obtain ⟨q0, hq0⟩ : ∃ q, q = D.decA (p 0) M := ⟨_, rfl⟩
    rw [← hq0] at ho0 ⊢
    obtain ⟨ts, r0⟩ := q0
    have hts : r0 = 0 → ts.length = M ∧ ∀ j, I64 (ts.getD j 0) := fun h => by
      subst h
      have hd := D.decA_ok H0.out.1.1 hq0.symm
      have hi := D.decA_ints (p 0) M
      rw [← hq0] at hi
      exact ⟨by have := hd.1; omega, hi⟩
    simp only [] at ho0 ⊢
    obtain ⟨x0, hx0⟩ : ∃ x, x = w3.heap.size := ⟨_, rfl⟩
    have o3 := (HS2.out.call hk3.to_below).alloc hx0 45 #[.slice T0 ts.length d0]
    have ho0' := own_keeps ho0 ((Keeps.refl (fun _ => False) w3).alloc (.cells #[.slice T0 ts.length d0] 45)) (fun _ _ h => h)
    have H3 := Lib.hid (And.intro hx0 (And.intro o3 (And.intro ho0' (And.intro hq0 hts))))
    clear hx0 o3 ho0 ho0' hq0 hts hk3 HX z0_0 z0_1 z0_2
    go_upto_region 5 with (fail)
    rw [← H3.out.1]
    refine wp_gen (fun wz => Own w1 [(x, 42, #[.slice B0 l0 c0, .slice B1 l1 c1, .slice B2 l2 c2]), (x0, 45, #[.slice T0 ts.length d0])] wz ∧ wz.ownsRow w2.heap.size 3 1 (.slice T0 ts.length d0) ts.length (ts.map D.intZ)) ⟨H3.out.2.1, H3.out.2.2.1⟩ ?_
    rintro w4 ⟨hS, hr0⟩
    have z0_0 := hS.cell 0 0 rfl rfl; have z0_1 := hS.cell 0 1 rfl rfl; have z0_2 := hS.cell 0 2 rfl rfl; have z1_0 := hS.cell 1 0 rfl rfl
    have HS4 := Lib.hid (And.intro hS hr0)
    clear hS hr0
    go_wp2_with fail
    refine (X.xdecode_any w4 B1 _ c1 (fun k => y < k) (p 1) M H1.out.2.2 (H1.out.2.1.keeps HS4.out.1.keeps (fun _ _ h => h)) H1.out.1.1 H1.out.1.2).mono ?_
    rintro e w5 ⟨vs, r1, T1, d1, rfl, ho1, hk5, hvs, hc1⟩
    have hvl : r1 = 0 → X.decXA (p 1) M = some vs ∧ vs.length = M := fun h => by
      subst h
      rcases hc1 with ⟨-, h⟩ | ⟨⟨h, -⟩, -⟩
      · have := (X.decXA_ok H1.out.1.1 h).1
        exact ⟨h, by omega⟩
      · exact absurd rfl h
    have hvn : r1 ≠ 0 → X.decXA (p 1) M = none := fun h => by
      rcases hc1 with ⟨h', -⟩ | ⟨-, h'⟩
      · exact absurd h' h
      · exact h'
    obtain ⟨x1, hx1⟩ : ∃ x, x = w5.heap.size := ⟨_, rfl⟩
    have o5 := (HS4.out.1.call hk5.to_below).alloc hx1 48 #[.slice T1 vs.length d1]
    have hkk := (hk5.alloc (.cells #[.slice T1 vs.length d1] 48))
    have ho1' := own_keeps ho1 ((Keeps.refl (fun _ => False) w5).alloc (.cells #[.slice T1 vs.length d1] 48)) (fun _ _ h => h)
    have hr0' := own_keeps HS4.out.2 hkk (fun _ _ h => h)
    have H5 := Lib.hid (And.intro hx1 (And.intro o5 (And.intro ho1' (And.intro hr0' (And.intro hvs (And.intro hvl hvn))))))
    clear hx1 o5 ho1 ho1' hr0' hvs hvl hvn hc1 hk5 hkk z0_0 z0_1 z0_2 z1_0
    go_upto_region 6 with (fail)
    rw [← H5.out.1]
    refine wp_gen (fun wz => Own w1 [(x, 42, #[.slice B0 l0 c0, .slice B1 l1 c1, .slice B2 l2 c2]), (x0, 45, #[.slice T0 ts.length d0]), (x1, 48, #[.slice T1 vs.length d1])] wz ∧ wz.ownsRow w2.heap.size 3 1 (.slice T0 ts.length d0) ts.length (ts.map D.intZ) ∧ wz.ownsRow w4.heap.size 51 1 (.slice T1 vs.length d1) vs.length (vs.map X.u64V)) ⟨H5.out.2.1, H5.out.2.2.2.1, H5.out.2.2.1⟩ ?_
    rintro w6 ⟨hS, hr0, hr1⟩
    have z0_0 := hS.cell 0 0 rfl rfl; have z0_1 := hS.cell 0 1 rfl rfl; have z0_2 := hS.cell 0 2 rfl rfl; have z1_0 := hS.cell 1 0 rfl rfl; have z2_0 := hS.cell 2 0 rfl rfl
    have HS6 := Lib.hid (And.intro hS (And.intro hr0 hr1))
    clear hS hr0 hr1
    go_wp2_with fail
    refine (D.decode_any w6 B2 _ c2 (fun k => y < k) (p 2) M H2.out.2.2 (H2.out.2.1.keeps HS6.out.1.keeps (fun _ _ h => h)) H2.out.1.1 H2.out.1.2).mono ?_
    rintro e w7 ⟨T2, d2, rfl, ho2, hk7⟩
    obtain ⟨q2, hq2⟩ : ∃ q, q = D.decA (p 2) M := ⟨_, rfl⟩
    rw [← hq2] at ho2 ⊢
    obtain ⟨ss, r2⟩ := q2
    have hss : r2 = 0 → ss.length = M ∧ ∀ j, I64 (ss.getD j 0) := fun h => by
      subst h
      have hd := D.decA_ok H2.out.1.1 hq2.symm
      have hi := D.decA_ints (p 2) M
      rw [← hq2] at hi
      exact ⟨by have := hd.1; omega, hi⟩
    simp only [] at ho2 ⊢
    obtain ⟨x2, hx2⟩ : ∃ x, x = w7.heap.size := ⟨_, rfl⟩
    have o7 := (HS6.out.1.call hk7.to_below).alloc hx2 45 #[.slice T2 ss.length d2]
    have hkk := (hk7.alloc (.cells #[.slice T2 ss.length d2] 45))
    have ho2' := own_keeps ho2 ((Keeps.refl (fun _ => False) w7).alloc (.cells #[.slice T2 ss.length d2] 45)) (fun _ _ h => h)
    have hr0' := own_keeps HS6.out.2.1 hkk (fun _ _ h => h)
    have hr1' := own_keeps HS6.out.2.2 hkk (fun _ _ h => h)
    have H7 := Lib.hid (And.intro hx2 (And.intro o7 (And.intro ho2' (And.intro hr0' (And.intro hr1' (And.intro hq2 hss))))))
    clear hx2 o7 ho2 ho2' hr0' hr1' hq2 hss hk7 hkk z0_0 z0_1 z0_2 z1_0 z2_0
    have HNt : Hid (r0 ≠ 0 → NotEnc b) := Lib.hid (fun h => not_t (by rw [← HQ.out.2.2.1, ← HQ.out.2.2.2.2, ← H3.out.2.2.2.1]; exact h))
    have HNv : Hid (r1 ≠ 0 → NotEnc b) := Lib.hid (fun h => not_v (by rw [← HQ.out.2.2.1, ← HQ.out.2.2.2.2]; exact H5.out.2.2.2.2.2.2 h))
    have HNs : Hid (r2 ≠ 0 → NotEnc b) := Lib.hid (fun h => not_s (by rw [← HQ.out.2.2.1, ← HQ.out.2.2.2.2, ← H7.out.2.2.2.2.2.1]; exact h))
    have HK7 := Lib.hid (HQ.out.2.1.trans' H7.out.2.1.keeps)
    by_cases z0 : r0 = 0
    · by_cases z1 : r1 = 0
      · by_cases z2 : r2 = 0
        · subst z0
          subst z1
          subst z2
          have hts := H3.out.2.2.2.2 rfl
          have hvl := H5.out.2.2.2.2.2.1 rfl
          have hss := H7.out.2.2.2.2.2.2 rfl
          have k7 := (Keeps.refl (fun _ => False) (w7.alloc (.cells #[.slice T2 ss.length d2] 45))).alloc (.cells #[.int .i64 (M : Nat), capV x0 x1 x2] 54)
          obtain ⟨x3, hx3⟩ : ∃ x, x = w7.heap.size + 1 := ⟨_, rfl⟩
          have o8 := H7.out.2.1.alloc (g := x3) (by rw [hx3]; simp) 54 #[.int .i64 (M : Nat), capV x0 x1 x2]
          have s0' := row_i (own_keeps H7.out.2.2.2.1 k7 (fun _ _ h => h)) rfl
          have s1' := row_u (own_keeps H7.out.2.2.2.2.1 k7 (fun _ _ h => h)) rfl
          have s2' := row_i (own_keeps H7.out.2.2.1 k7 (fun _ _ h => h)) rfl
          rw [hts.1] at o8 s0' ⊢
          rw [hvl.2] at o8 s1' ⊢
          rw [hss.1] at o8 s0' s1' s2' k7 ⊢
          have hgp : (D.decA (cPt (F.openI b) 0) ((V.vget (F.openI b)).1 : Nat) = (ts, 0) ∧ X.decXA (cPt (F.openI b) 1) ((V.vget (F.openI b)).1 : Nat) = some vs) ∧ D.decA (cPt (F.openI b) 2) ((V.vget (F.openI b)).1 : Nat) = (ss, 0) := by
            rw [← HQ.out.2.2.1, ← HQ.out.2.2.2.2]
            exact ⟨⟨H3.out.2.2.2.1.symm, hvl.1⟩, H7.out.2.2.2.2.2.1.symm⟩
          have H8 := Lib.hid (And.intro hx3 (And.intro o8 (And.intro s0' (And.intro s1' (And.intro s2' (And.intro hgp H5.out.2.2.2.2.1))))))
          have H9 := Lib.hid H7.out.1
          clear hx3 o8 s0' s1' s2' hgp k7 hts hvl hss H3 H5 H7 HNt HNv HNs HS2 HS4 HS6 H0 H1 H2 s0 s1 s2
          go_upto_region 10 with (fail)
          rw [← H8.out.1, ← H9.out]
          refine wp_gen (fun wz => Own w1 [(x, 42, #[.slice B0 l0 c0, .slice B1 l1 c1, .slice B2 l2 c2]), (x0, 45, #[.slice T0 M d0]), (x1, 48, #[.slice T1 M d1]), (x2, 45, #[.slice T2 M d2]), (x3, 54, #[.int .i64 (M : Nat), capV x0 x1 x2])] wz ∧
            Sl wz (fun k => w2.heap.size ≤ k) T0 M (fun j => .int .i64 (ts.getD j 0)) ∧ Sl wz (fun k => w4.heap.size ≤ k) T1 M (fun j => .int .u64 (vs.getD j 0 : Nat)) ∧ Sl wz (fun k => w6.heap.size ≤ k) T2 M (fun j => .int .i64 (ss.getD j 0))) ⟨H8.out.2.1, H8.out.2.2.1, H8.out.2.2.2.1, H8.out.2.2.2.2.1⟩ ?_
          rintro w8 ⟨hS, hr0, hr1, hr2⟩
          have hcap := cap_of (hS.cell 1 0 rfl rfl) (hS.cell 2 0 rfl rfl) (hS.cell 3 0 rfl rfl) hr0 hr1 hr2
          have y0 := hS.cell 4 0 rfl rfl
          have y1 := hS.cell 4 1 rfl rfl
          have HS8 := Lib.hid (And.intro hcap (HQ.out.2.1.trans' hS.keeps))
          clear hS hr0 hr1 hr2 hcap HK7
          unfold capV at y1
          go_wp2_with fail
          refine (points_any w8 x0 x1 x2 M _ _ _ HS8.out.1 hM).mono ?_
          rintro e w9 ⟨A9, c9, rfl, hc9, hsl9, hk9⟩
          have hgf : (fun j => (⟨ts.getD j 0, IntKind.i64.wrap (vs.getD j 0 : Nat), ss.getD j 0⟩ : Pt)) = gP ts vs ss := rfl
          rw [hgf] at hsl9
          have hsl9 : SlP w9 (fun k => w.heap.size ≤ k) A9 M (gP ts vs ss) := hsl9.mono (fun k hk => Nat.le_trans HS8.out.2.size hk)
          have H10 := Lib.hid (And.intro hsl9 (HS8.out.2.trans' hk9))
          clear hsl9 hk9 hgf y0 y1
          go_wp2_with fail
          refine (cvalid_any A9 M c9 (gP ts vs ss) _ w9 H10.out.1 (by omega)).mono ?_
          rintro e w10 ⟨rfl, hb10⟩
          have HK7 := Lib.hid (H10.out.2.trans' (Keeps.of_below hb10))
          cases hv : colV (gP ts vs ss) M with
          | false =>
            have HN := Lib.hid (not_valid H8.out.2.2.2.2.2.1.1.1 H8.out.2.2.2.2.2.1.1.2 H8.out.2.2.2.2.2.1.2 (by rw [← HQ.out.2.2.2.2]; exact hv))
            clear hv hb10
            go_wp2_with fail
            go_ret2
            exact ⟨HK7.out, .inr ⟨rfl, HN.out⟩⟩
          | true =>
            have henc := enc_of_parts (fun x hx => F.mem_byte HS.out.2.2.1 x hx) HQ.out.1 H8.out.2.2.2.2.2.1.1.1 H8.out.2.2.2.2.2.1.1.2 H8.out.2.2.2.2.2.1.2 H8.out.2.2.2.2.2.2 HQ.out.2.2.2.1
            have HG := Lib.hid (And.intro (H10.out.1.below hb10) (show IsEnc b (gP ts vs ss) M from ⟨hv, by have := henc.1; rw [← HQ.out.2.2.2.2] at this; exact this⟩))
            clear hv hb10 henc
            go_wp2_with fail
            go_ret2
            exact ⟨HK7.out, .inl ⟨A9, M, c9, gP ts vs ss, rfl, hc9, HG.out.1, HG.out.2, fun j => by show I64 (IntKind.i64.wrap _); unfold I64; rw [IntKind.wrap_i64]; omega⟩⟩
        · subst z0
          subst z1
          have HN := Lib.hid (HNs.out z2)
          have e2 : (r2 != 0) = true := by simp [z2]
          go_wp2_with fail
          go_ret2
          exact ⟨HK7.out, .inr ⟨rfl, HN.out⟩⟩
      · subst z0
        have HN := Lib.hid (HNv.out z1)
        have e1 : (r1 != 0) = true := by simp [z1]
        go_wp2_with fail
        go_ret2
        exact ⟨HK7.out, .inr ⟨rfl, HN.out⟩⟩
    · have HN := Lib.hid (HNt.out z0)
      have e0 : (r0 != 0) = true := by simp [z0]
      go_wp2_with fail
      go_ret2
      exact ⟨HK7.out, .inr ⟨rfl, HN.out⟩⟩
end Go.Proofs.YtboecnakndpgfaaDoor
namespace Go.Proofs.YtboecnakndpgfaaDoor
open Go.RowKit
set_option linter.unusedVariables false
set_option linter.unusedSimpArgs false
theorem slp_one (w : World) (t : TypeId) (p : Pt) : SlP (w.alloc (.cells #[.int .i64 p.t, .int .i64 p.v, .int .i64 p.s] t)) (fun k => k = w.heap.size) (some ⟨w.heap.size, 0, none⟩) 1 (fun _ => p) := fun _ => by
  have h := Blk.fresh w t #[.int .i64 p.t, .int .i64 p.v, .int .i64 p.s]
  refine ⟨w.heap.size, 0, rfl, rfl, fun j hj => ?_⟩
  obtain rfl : j = 0 := by omega
  exact ⟨h.cell 0, h.cell 1, h.cell 2⟩
theorem slp_two (w : World) (t : TypeId) (p q : Pt) : SlP (w.alloc (.cells #[.int .i64 p.t, .int .i64 p.v, .int .i64 p.s, .int .i64 q.t, .int .i64 q.v, .int .i64 q.s] t)) (fun k => k = w.heap.size) (some ⟨w.heap.size, 0, none⟩) 2 (fun j => if j = 0 then p else q) := fun _ => by
  have h := Blk.fresh w t #[.int .i64 p.t, .int .i64 p.v, .int .i64 p.s, .int .i64 q.t, .int .i64 q.v, .int .i64 q.s]
  refine ⟨w.heap.size, 0, rfl, rfl, fun j hj => ?_⟩
  rcases (show j = 0 ∨ j = 1 by omega) with rfl | rfl
  · exact ⟨h.cell 0, h.cell 1, h.cell 2⟩
  · exact ⟨h.cell 3, h.cell 4, h.cell 5⟩
/-- What is a block's encoding is what Encode tells. -/
theorem enc_L {f : Nat → Pt} {n : Nat} {b : List Nat} (h : IsEnc b f n) : colL f n = (b, 0) := by rw [colL_ok h.1, h.2]
theorem L_enc {f : Nat → Pt} {n : Nat} {b : List Nat} (h : colL f n = (b, 0)) : IsEnc b f n := by
  unfold colL at h
  by_cases hv : colV f n = true
  · rw [if_pos hv] at h
    injection h with h _
    exact ⟨hv, h⟩
  · rw [if_neg hv] at h
    injection h with _ h
    cases h
theorem L_cases (f : Nat → Pt) (n : Nat) : (colV f n = true ∧ colL f n = (F.sealL 3 (colUp f n 3), 0) ∧ IsEnc (F.sealL 3 (colUp f n 3)) f n) ∨ (colV f n = false ∧ colL f n = ([], 2)) := by
  unfold colL
  cases hv : colV f n with
  | true => exact .inl ⟨rfl, by rw [if_pos rfl], hv, rfl⟩
  | false => exact .inr ⟨rfl, by rw [if_neg (by simp)]⟩
theorem enc_n {f : Nat → Pt} {n : Nat} {b : List Nat} (h : IsEnc b f n) : 0 < n ∧ n ≤ 4096 := (colV_spec h.1).2
theorem enc_open {f : Nat → Pt} {n : Nat} {b : List Nat} (h : IsEnc b f n) : F.openE b = 0 := (parts_of_enc h.1 h.2).1.e
theorem enc_bytes {f : Nat → Pt} {n : Nat} {b : List Nat} (h : IsEnc b f n) : ∀ x ∈ b, x < 256 := by
  rw [← h.2]
  exact F.sealL_byte (by omega) (colUp_byte f n 3)
theorem enc_len {f : Nat → Pt} {n : Nat} {b : List Nat} (h : IsEnc b f n) : 9 ≤ b.length ∧ b.length ≤ 120060 := by
  rw [← h.2, F.sealL_length]
  have := colUp_len f n (enc_n h).2 3
  omega
theorem getD_of {b : List Nat} (h : ∀ x ∈ b, x < 256) : ∀ j, b.getD j 0 < 256 := V.getD_all_lt h
end Go.Proofs.YtboecnakndpgfaaDoor
