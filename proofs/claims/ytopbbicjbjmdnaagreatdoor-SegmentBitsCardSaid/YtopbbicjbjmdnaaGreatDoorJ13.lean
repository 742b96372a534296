/-
  Texts of this proof, joined: ColS, ColT, ColU, ColX, EqP, ColY, ColLw, SgX, SgT, SgU.
-/
import Derived.Test.YtopbbicjbjmdnaaGreatDoorJ12
import Derived.WalkKit
import Derived.WalkSpells
import Derived.WalkLawsBesides
import Derived.Outline
import Derived.Deep.Cut
import Derived.Test.YtopbbicjbjmdnaaGreatDoorJ02
import Derived.Test.YtopbbicjbjmdnaaGreatDoorJ06
import Derived.Deep.DeepCutAuto
import Derived.Test.YtopbbicjbjmdnaaGreatDoorJ07
import Derived.Test.YtopbbicjbjmdnaaGreatDoorJ08
namespace Go.Proofs.YtopbbicjbjmdnaaGreatDoor
open Go.RowKit
set_option linter.unusedVariables false
set_option linter.unusedSimpArgs false
theorem ptInfo : ∃ i, Tryz.prog.info? 30 = some i ∧ i.zero = some (.agg #[.int .i64 0, .int .i64 0, .int .i64 0]) ∧ i.size = 3 ∧ i.bytes = 24 := by
  have h : (Tryz.prog.info? 30).map (fun i => (i.zero, i.size, i.bytes)) = some (some (.agg #[.int .i64 0, .int .i64 0, .int .i64 0]), 3, 24) := by kernel_rfl
  cases hi : Tryz.prog.info? 30 with
  | none => rw [hi] at h; cases h
  | some i =>
    rw [hi] at h
    simp only [Option.map_some, Option.some.injEq, Prod.mk.injEq] at h
    exact ⟨i, rfl, h.1, h.2.1, h.2.2⟩
theorem mk_pts (W : World) (n : Nat) (f : Nat → Pt) (hn : n ≤ 4096) : ∃ w', (Instr.makeSlice 31 (.int .i64 (n : Nat)) (.int .i64 (n : Nat))).run Tryz.prog W = .ok (.slice (some ⟨W.heap.size, 0, none⟩) n n) w' ∧ RowP w' W.heap.size n 0 f ∧ Keeps (fun _ => False) W w' := by
  obtain ⟨i, h1, h2, h3, h4⟩ := ptInfo
  obtain ⟨w', hr, ho, hg⟩ := run_make_full (P := Tryz.prog) (w := W) W.heap.size 31 30 i _ 3 Tryz.underlying31 h1 h2 h3 .i64 .i64 n (by rw [h4]; omega) (by unfold maxLen; omega) (Nat.le_refl _)
  refine ⟨w', hr, ?_, (Keeps.refl _ W).grown hg (fun k hk => by cases hk)⟩
  rcases ho.2 with ⟨h5, -⟩ | ⟨g, cap, cur, h5, -, h6, -, -, h7, -⟩
  · cases h5
  · injection h5 with h5 h8 h9
    injection h5 with h5
    injection h5 with h5
    subst h5
    subst h9
    exact ⟨cur, h6, h7, fun j hj => absurd hj (Nat.not_lt_zero _)⟩
theorem setCells_blk {g : Nat} {t : TypeId} : ∀ (vs : List Value) (o : Nat) (w : World) (cur : Array Value), Blk w g t cur → o + vs.length ≤ cur.size →
    ∃ cur', Blk (w.setCells g o vs) g t cur' ∧ cur'.size = cur.size ∧ ∀ i, cur'[i]? = if o ≤ i ∧ i < o + vs.length then vs[i - o]? else cur[i]?
  | [], o, w, cur, h, hl => ⟨cur, h, rfl, fun i => by rw [if_neg (by simp)]⟩
  | v :: r, o, w, cur, h, hl => by
    obtain ⟨cur', h1, h2, h3⟩ := setCells_blk r (o + 1) (w.setCell ⟨g, o, none⟩ v) _ (h.set o v) (by simp at hl ⊢; omega)
    refine ⟨cur', h1, by rw [h2]; simp, fun i => ?_⟩
    rw [h3 i]
    simp only [List.length_cons] at hl ⊢
    by_cases h4 : i = o
    · subst h4
      rw [if_neg (by omega), if_pos (by omega), Array.getElem?_setIfInBounds, if_pos rfl, if_pos (by omega)]
      simp
    · by_cases h5 : o + 1 ≤ i ∧ i < o + 1 + r.length
      · rw [if_pos h5, if_pos (by omega)]
        obtain ⟨d, hd⟩ : ∃ d, i - o = d + 1 := ⟨i - o - 1, by omega⟩
        rw [hd, show i - (o + 1) = d by omega]
        rfl
      · rw [if_neg h5, if_neg (by omega), Array.getElem?_setIfInBounds, if_neg (by omega)]
theorem setCells_keeps {g : Nat} : ∀ (vs : List Value) (o : Nat) (w : World), Keeps (fun k => k = g) w (w.setCells g o vs)
  | [], o, w => Keeps.refl _ _
  | v :: r, o, w => ((Keeps.refl (fun k => k = g) w).setCell (p := ⟨g, o, none⟩) (fun _ => rfl) v).trans' (setCells_keeps r (o + 1) _)
/-- A row of points is copied whole. -/
theorem copy_pts (w : World) (g g2 n : Nat) (f f2 : Nat → Pt) (h : RowP w g n n f) (h2 : RowP w g2 n 0 f2) (ty : TypeId) :
    ∃ w', (Builtin.copy_ #[31, 31] ty #[.slice (some ⟨g2, 0, none⟩) n n, .slice (some ⟨g, 0, none⟩) n n]).run Tryz.prog w = .ok (goInt n) w' ∧ RowP w' g2 n n f ∧ Keeps (fun k => k = g2) w w' := by
  obtain ⟨cur, c1, c2, c3⟩ := h.blk
  obtain ⟨cur2, d1, d2, -⟩ := h2.blk
  have hl : cur.toList.length = n * 3 := by simpa using c2
  obtain ⟨i, h1, -, h3, -⟩ := ptInfo
  have hone : ∀ v ∈ cur.toList, v.oneCell' = true := fun v hv => by
    obtain ⟨j, hj, rfl⟩ := List.mem_iff_getElem.1 hv
    obtain ⟨k0, k1, k2⟩ := c3 (j / 3) (by omega)
    have e : cur.toList[j]? = cur[j]? := by simp
    have e2 : cur.toList[j]? = some cur.toList[j] := List.getElem?_eq_getElem hj
    have h4 : j = j / 3 * 3 ∨ j = j / 3 * 3 + 1 ∨ j = j / 3 * 3 + 2 := by omega
    rw [e2] at e
    rcases h4 with h4 | h4 | h4
    · have k := (congrArg (fun x => cur[x]?) h4).trans k0
      rw [Option.some.inj (e.trans k)]; rfl
    · have k := (congrArg (fun x => cur[x]?) h4).trans k1
      rw [Option.some.inj (e.trans k)]; rfl
    · have k := (congrArg (fun x => cur[x]?) h4).trans k2
      rw [Option.some.inj (e.trans k)]; rfl
  have hadd : ∀ j, (⟨g, 0, none⟩ : Addr).add j = ⟨g, 0 + j, none⟩ := fun j => by unfold Addr.add; split <;> simp_all
  have hrun := run_copy_wide (P := Tryz.prog) w 31 31 ty 30 g2 n n ⟨g, 0, none⟩ n n 3 cur.toList Tryz.underlying31 (by rw [h1]; simp [h3]) (by rw [hl]; simp)
    (fun j v hj => by rw [hadd, Nat.zero_add, c1.cell j]; simpa using hj) (fun j hj => by rw [Nat.zero_add, d1.cell j]; rw [Array.getElem?_eq_getElem (by omega)]; rfl) (fun j hj => d1.frozen _) hone
  rw [show Nat.min n n = n from Nat.min_self n] at hrun
  obtain ⟨cur', e1, e2, e3⟩ := setCells_blk cur.toList 0 w cur2 d1 (by omega)
  refine ⟨_, hrun, ⟨cur', e1, by omega, fun j hj => ?_⟩, setCells_keeps _ _ _⟩
  obtain ⟨k0, k1, k2⟩ := c3 j hj
  rw [e3, e3, e3, if_pos (by omega), if_pos (by omega), if_pos (by omega)]
  simp only [Nat.sub_zero, Array.getElem?_toList]
  exact ⟨k0, k1, k2⟩
end Go.Proofs.YtopbbicjbjmdnaaGreatDoor
namespace Go.Proofs.YtopbbicjbjmdnaaGreatDoor
open Go.RowKit
set_option linter.unusedVariables false
set_option linter.unusedSimpArgs false
theorem RowP.sl {w : World} {g n : Nat} {f : Nat → Pt} {D : Nat → Prop} (h : RowP w g n n f) (hg : D g) : SlP w D (some ⟨g, 0, none⟩) n f := fun _ => by
  obtain ⟨cur, h1, -, h3⟩ := h.blk
  refine ⟨g, 0, rfl, hg, fun j hj => ?_⟩
  rw [Nat.zero_add, h1.cell, h1.cell, h1.cell]
  exact h3 j hj
def PtsPost (w : World) (n : Nat) (f : Nat → Pt) (e : Ending) (w' : World) : Prop :=
  ∃ A c, e = .returned (.slice A n c) ∧ n ≤ c ∧ SlP w' (fun k => w.heap.size ≤ k) A n f ∧ Keeps (fun _ => False) w w'
set_option maxRecDepth 100000 in
set_option maxHeartbeats 1500000 in
theorem points_any (w : World) (xt xv xs n : Nat) (t : Nat → Int) (v : Nat → Nat) (s : Nat → Int) (hc : CapIs w xt xv xs n t v s) (hn : n ≤ 4096) :
    Calls Tryz.prog 71 #[.agg #[.int .i64 n, capV xt xv xs]] w (PtsPost w n (fun j => ⟨t j, IntKind.i64.wrap (v j : Nat), s j⟩)) := by
  obtain ⟨f, hf⟩ : ∃ f : Nat → Pt, f = fun j => ⟨t j, IntKind.i64.wrap (v j : Nat), s j⟩ := ⟨_, rfl⟩
  rw [← hf]
  obtain ⟨xb, hxb⟩ : ∃ x, x = w.heap.size := ⟨_, rfl⟩
  obtain ⟨w1, hr1, hp1, hk1⟩ := mk_pts (w.alloc (.cells #[.int .i64 n, capV xt xv xs] 149)) n f hn
  have hb1 := (Blk.fresh w 149 #[.int .i64 n, capV xt xv xs]).keeps hk1 (fun h => h)
  have hk := ((Keeps.refl (fun _ => False) w).alloc (.cells #[.int .i64 n, capV xt xv xs] 149)).trans' hk1
  obtain ⟨g, hg⟩ : ∃ g, g = w.heap.size + 1 := ⟨_, rfl⟩
  have hge : (w.alloc (.cells #[.int .i64 n, capV xt xv xs] 149)).heap.size = g := by rw [hg]; simp
  rw [hge] at hp1
  have HP := Lib.hid (And.intro hf (And.intro hxb (And.intro hp1 (And.intro hb1 (And.intro hk (And.intro hg hc))))))
  clear hf hxb hp1 hb1 hk hk1 hge hg hc
  unfold capV at hr1 HP ⊢
  go_enter Tryz.func71, Tryz.ntmps71
  go_wp2_with fail
  have HK := HP
  go_loopw [4, 11] (fun i4 i wr => ∃ k : Nat, k ≤ n ∧ i = .int .i64 k ∧ RowP wr g n k f ∧ Keeps (fun _ => False) w wr ∧ Blk wr w.heap.size 149 #[.int .i64 n, .func (.func 70) #[] #[.pointer (some ⟨xt, 0, none⟩), .pointer (some ⟨xv, 0, none⟩), .pointer (some ⟨xs, 0, none⟩)]]) (fun _ i _ => n - (intOf i).toNat)
  case atStart => exact ⟨0, Nat.zero_le _, rfl, HP.out.2.2.1, HP.out.2.2.2.2.1, HP.out.2.2.2.1⟩
  case round =>
    obtain ⟨k, hk, rfl, hrow, hkp, hbx⟩ := hrel
    by_cases hlt : k < n
    · have z0 := hbx.cell 0
      have z1 := hbx.cell 1
      simp only [List.getElem?_toArray, List.getElem?_cons_zero, List.getElem?_cons_succ] at z0 z1
      have HB := Lib.hid (And.intro hrow (And.intro hkp hbx))
      clear hrow hkp hbx
      go_wp2_with fail
      obtain ⟨z, hz⟩ : ∃ z, z = IntKind.i64.wrap (v k : Nat) := ⟨_, rfl⟩
      have hclo := clo_at wr xt xv xs n k t v s (HP.out.2.2.2.2.2.2.below HB.out.2.1.to_below) hlt
      rw [← hz] at hclo
      have HZ := Lib.hid hz
      clear hz
      refine hclo.mono ?_
      clear hclo
      rintro e w2 ⟨rfl, hb2⟩
      obtain ⟨cur, q1, q2, -⟩ := (HB.out.1.below hb2).blk
      have r0 : w2.cell? ⟨g, k * 3, none⟩ = some cur[k * 3] := by rw [q1.cell, Array.getElem?_eq_getElem (by omega)]
      have r1 : w2.cell? ⟨g, k * 3 + 1, none⟩ = some cur[k * 3 + 1] := by rw [q1.cell, Array.getElem?_eq_getElem (by omega)]
      have r2 : w2.cell? ⟨g, k * 3 + 2, none⟩ = some cur[k * 3 + 2] := by rw [q1.cell, Array.getElem?_eq_getElem (by omega)]
      have rf := q1.frozen
      rw [HP.out.2.2.2.2.2.1] at r0 r1 r2 rf
      generalize cur[k * 3] = u0 at r0
      generalize cur[k * 3 + 1] = u1 at r1
      generalize cur[k * 3 + 2] = u2 at r2
      have H2 := Lib.hid hb2
      clear q1 q2 hb2
      go_wp2_with fail
      go_roundw
      case rel =>
        refine ⟨k + 1, by omega, by go_num, ?_, ?_, ?_⟩
        · have h := (HB.out.1.below H2.out).put (p := ⟨t k, z, s k⟩) hlt (by rw [HP.out.1, HZ.out])
          rw [HP.out.2.2.2.2.2.1] at h ⊢
          exact h
        · exact (((HB.out.2.1.trans' (Keeps.of_below H2.out)).setCell (fun (h : w.heap.size + 1 < w.heap.size) => absurd h (by omega)) _).setCell (fun (h : w.heap.size + 1 < w.heap.size) => absurd h (by omega)) _).setCell (fun (h : w.heap.size + 1 < w.heap.size) => absurd h (by omega)) _
        · exact (((HB.out.2.2.below H2.out HB.out.2.2.lt).far (by simp) _).far (by simp) _).far (by simp) _
      case measure => simp [intOf]; omega
    · obtain rfl : k = n := by omega
      obtain ⟨w3, hr3, hp3, hk3⟩ := mk_pts wr k f hn
      obtain ⟨w4, hr4, hp4, hk4⟩ := copy_pts w3 g wr.heap.size k f f (hrow.below hk3.to_below) hp3 3
      rw [HP.out.2.2.2.2.2.1] at hr4
      have hks := hkp.size
      have HR := Lib.hid (And.intro hp4 ((hkp.trans' hk3).trans hk4 (fun x hx e => by omega)))
      have HG := Lib.hid hks
      clear hp3 hk3 hp4 hk4 hrow hkp hbx hks
      go_wp2_with fail
      go_ret
      exact ⟨_, k, rfl, Nat.le_refl _, HR.out.1.sl HG.out, HR.out.2⟩
end Go.Proofs.YtopbbicjbjmdnaaGreatDoor
namespace Go.Proofs.YtopbbicjbjmdnaaGreatDoor
open Go.RowKit
set_option linter.unusedVariables false
set_option linter.unusedSimpArgs false
/-- What decoding a block answers: its points, or 24. -/
def CDecPost (b : List Nat) (w : World) (e : Ending) (w' : World) : Prop :=
  Keeps (fun _ => False) w w' ∧
    ((∃ (A : Option Addr) (n c : Nat) (f : Nat → Pt), e = .returned (.tuple #[.slice A n c, .int .i64 0]) ∧ n ≤ c ∧ SlP w' (fun k => w.heap.size ≤ k) A n f ∧ IsEnc b f n ∧ ∀ j, I64 (f j).v) ∨
     (e = .returned (.tuple #[.slice none 0 0, .int .i64 24]) ∧ NotEnc b))
theorem not_parts {b : List Nat} (h : ¬ Parts b) : NotEnc b := fun f n hE => h (parts_of_enc hE.1 hE.2).1
theorem not_t {b : List Nat} (h : (D.decA (cPt (F.openI b) 0) ((V.vget (F.openI b)).1 : Nat)).2 ≠ 0) : NotEnc b := fun f n hE => by
  obtain ⟨-, h1, h2, -, -⟩ := parts_of_enc hE.1 hE.2
  rw [h1, h2] at h
  exact h rfl
theorem not_s {b : List Nat} (h : (D.decA (cPt (F.openI b) 2) ((V.vget (F.openI b)).1 : Nat)).2 ≠ 0) : NotEnc b := fun f n hE => by
  obtain ⟨-, h1, -, -, h2⟩ := parts_of_enc hE.1 hE.2
  rw [h1, h2] at h
  exact h rfl
theorem not_v {b : List Nat} (h : X.decXA (cPt (F.openI b) 1) ((V.vget (F.openI b)).1 : Nat) = none) : NotEnc b := fun f n hE => by
  obtain ⟨-, h1, -, h2, -⟩ := parts_of_enc hE.1 hE.2
  rw [h1, h2] at h
  cases h
theorem not_valid {b : List Nat} {ts : List Int} {vs : List Nat} {ss : List Int} (h0 : D.decA (cPt (F.openI b) 0) ((V.vget (F.openI b)).1 : Nat) = (ts, 0)) (h1 : X.decXA (cPt (F.openI b) 1) ((V.vget (F.openI b)).1 : Nat) = some vs)
    (h2 : D.decA (cPt (F.openI b) 2) ((V.vget (F.openI b)).1 : Nat) = (ss, 0)) (hv : colV (gP ts vs ss) (V.vget (F.openI b)).1 = false) : NotEnc b := fun f n hE => by
  obtain ⟨-, k, e0, e1, e2⟩ := parts_of_enc hE.1 hE.2
  rw [k] at h0 h1 h2 hv
  rw [e0] at h0
  rw [e1] at h1
  rw [e2] at h2
  injection h0 with h0 _
  injection h1 with h1
  injection h2 with h2 _
  subst h0
  subst h1
  subst h2
  have := colV_ts (f := gP (D.upTo (tOf f n) n) (X.upToN (vOf f n) n) (D.upTo (sOf f n) n)) (g := f) n (fun j hj => ⟨(gP_enc f n j hj).1, (gP_enc f n j hj).2.1⟩)
  rw [this, hE.1] at hv
  cases hv
end Go.Proofs.YtopbbicjbjmdnaaGreatDoor
namespace Go.Proofs.YtopbbicjbjmdnaaGreatDoor
open Go.RowKit
set_option linter.unusedVariables false
set_option linter.unusedSimpArgs false
theorem parts_byte {b : List Nat} (hIb : ∀ j, (F.openI b).getD j 0 < 256) (hP : Parts b) (j : Nat) (hj : j < 3) : (∀ i, (cPt (F.openI b) j).getD i 0 < 256) ∧ (cPt (F.openI b) j).length ≤ 1048576 := by
  obtain ⟨k1, k2, k3⟩ := vtext_get (l := (F.openI b).drop (cAt (F.openI b) j)) (most := 1048576) (V.getD_drop_lt hIb _) (hP.t j hj)
  refine ⟨V.getD_all_lt (fun x hx => ?_), by unfold cPt; omega⟩
  have hm : x ∈ ((F.openI b).drop (cAt (F.openI b) j)).take (V.vtext ((F.openI b).drop (cAt (F.openI b) j)) 1048576).2.1 := by rw [k2]; exact List.mem_append_right _ hx
  exact F.mem_byte hIb x (List.mem_of_mem_drop (List.mem_of_mem_take hm))
theorem row_i {w : World} {base n c : Nat} {A : Option Addr} {l : List Int} (ho : w.ownsRow base 3 1 (.slice A n c) n (l.map D.intZ)) (hl : l.length = n) : Sl w (fun k => base ≤ k) A n (fun j => .int .i64 (l.getD j 0)) := by
  have h := Sl.of_own (f := fun j => .int .i64 (l.getD j 0)) ho (fun j u hu => by
    rw [List.getElem?_map] at hu
    cases hj : l[j]? with
    | none => rw [hj] at hu; cases hu
    | some x => rw [hj] at hu; injection hu with hu; rw [List.getD_eq_getElem?_getD, hj]; exact hu.symm)
  exact h.mono (fun k hk => (ho.lt k hk).1)
theorem row_u {w : World} {base n c : Nat} {A : Option Addr} {l : List Nat} (ho : w.ownsRow base 54 1 (.slice A n c) n (l.map X.u64V)) (hl : l.length = n) : Sl w (fun k => base ≤ k) A n (fun j => .int .u64 (l.getD j 0 : Nat)) := by
  have h := Sl.of_own (f := fun j => .int .u64 (l.getD j 0 : Nat)) ho (fun j u hu => by
    rw [List.getElem?_map] at hu
    cases hj : l[j]? with
    | none => rw [hj] at hu; cases hu
    | some x => rw [hj] at hu; injection hu with hu; rw [List.getD_eq_getElem?_getD, hj]; exact hu.symm)
  exact h.mono (fun k hk => (ho.lt k hk).1)
theorem cap_of {w : World} {x y z n a b c : Nat} {A B C : Option Addr} {D E F : Nat → Prop} {ts : List Int} {vs : List Nat} {ss : List Int} (h0 : w.cell? ⟨x, 0, none⟩ = some (.slice A n a)) (h1 : w.cell? ⟨y, 0, none⟩ = some (.slice B n b)) (h2 : w.cell? ⟨z, 0, none⟩ = some (.slice C n c))
    (s0 : Sl w D A n (fun j => .int .i64 (ts.getD j 0))) (s1 : Sl w E B n (fun j => .int .u64 (vs.getD j 0 : Nat))) (s2 : Sl w F C n (fun j => .int .i64 (ss.getD j 0))) : CapIs w x y z n (fun j => ts.getD j 0) (fun j => vs.getD j 0) (fun j => ss.getD j 0) := fun hn => by
  obtain ⟨b0, o0, rfl, -, q0⟩ := s0 hn
  obtain ⟨b1, o1, rfl, -, q1⟩ := s1 hn
  obtain ⟨b2, o2, rfl, -, q2⟩ := s2 hn
  exact ⟨b0, o0, a, b1, o1, b, b2, o2, c, h0, h1, h2, fun j hj => ⟨q0 j hj, q1 j hj, q2 j hj⟩⟩
set_option maxRecDepth 100000 in
set_option maxHeartbeats 2000000 in
theorem cdecode_any (w : World) (A : Option Addr) (len c : Nat) (D0 : Nat → Prop) (b : List Nat) (hl : b.length = len) (hsl : Sl w D0 A len (byteC b)) (hb : ∀ j, b.getD j 0 < 256) (hlen : len ≤ 1048576) (hlc : len ≤ c) (hv : V.HErr w) :
    Calls Tryz.prog 49 #[.slice A len c] w (CDecPost b w) := by
  have HS := Lib.hid (And.intro hl (And.intro hsl (And.intro hb hv)))
  clear hl hsl hb hv
  go_enter Tryz.func49, Tryz.ntmps49
  go_wp2_with fail
  refine (parts_any _ _ _ _ D0 b HS.out.1 HS.out.2.1 HS.out.2.2.1 hlen hlc HS.out.2.2.2).mono ?_
  rintro e w1 ⟨n, y, pv, ok, rfl, hk, hshp, hyes, hno⟩
  cases ok with
  | false =>
    obtain ⟨B0, n0, k0, e0⟩ := hshp 0
    obtain ⟨B1, n1, k1, e1⟩ := hshp 1
    obtain ⟨B2, n2, k2, e2⟩ := hshp 2
    rw [e0, e1, e2]
    have HN := Lib.hid (And.intro hk (not_parts (hno rfl)))
    clear hyes hno hk hshp e0 e1 e2
    go_wp2_with fail
    go_ret2
    exact ⟨HN.out.1.alloc _, .inr ⟨rfl, HN.out.2⟩⟩
  | true =>
    obtain ⟨hP, rfl, hpt⟩ := hyes rfl
    have hIb := openI_byte HS.out.2.2.1
    have b0 := parts_byte hIb hP 0 (by omega)
    have b1 := parts_byte hIb hP 1 (by omega)
    have b2 := parts_byte hIb hP 2 (by omega)
    obtain ⟨p, hp⟩ : ∃ p : Nat → List Nat, p = cPt (F.openI b) := ⟨_, rfl⟩
    rw [← hp] at b0 b1 b2 hpt
    obtain ⟨B0, c0, e0, s0⟩ := hpt 0
    obtain ⟨B1, c1, e1, s1⟩ := hpt 1
    obtain ⟨B2, c2, e2, s2⟩ := hpt 2
    rw [e0, e1, e2]
    have s0 : Sl w1 (fun k => y < k) B0 (p 0).length (byteC (p 0)) := s0
    have s1 : Sl w1 (fun k => y < k) B1 (p 1).length (byteC (p 1)) := s1
    have s2 : Sl w1 (fun k => y < k) B2 (p 2).length (byteC (p 2)) := s2
    obtain ⟨l0, hl0⟩ : ∃ l, l = (p 0).length := ⟨_, rfl⟩
    obtain ⟨l1, hl1⟩ : ∃ l, l = (p 1).length := ⟨_, rfl⟩
    obtain ⟨l2, hl2⟩ : ∃ l, l = (p 2).length := ⟨_, rfl⟩
    rw [show (p (0 : Fin 3).val).length = l0 from hl0.symm, show (p (1 : Fin 3).val).length = l1 from hl1.symm, show (p (2 : Fin 3).val).length = l2 from hl2.symm]
    rw [← hl0] at s0 b0
    rw [← hl1] at s1 b1
    rw [← hl2] at s2 b2
    have hM := hP.m
    obtain ⟨M, hMe⟩ : ∃ M, M = (V.vget (F.openI b)).1 := ⟨_, rfl⟩
    rw [← hMe] at hM
    rw [← hMe]
    obtain ⟨x, hx⟩ : ∃ x, x = w1.heap.size := ⟨_, rfl⟩
    have o1 := Own.own1 w1 hx 93 #[.slice B0 l0 c0, .slice B1 l1 c1, .slice B2 l2 c2]
    have HX := Lib.hid (And.intro hx o1)
    have HQ := Lib.hid (And.intro hP (And.intro hk (And.intro hp (And.intro hIb hMe))))
    have H0 := Lib.hid (And.intro b0 (And.intro s0 hl0.symm))
    have H1 := Lib.hid (And.intro b1 (And.intro s1 hl1.symm))
    have H2 := Lib.hid (And.intro b2 (And.intro s2 hl2.symm))
    clear hx o1 hP hk hp hIb hMe b0 s0 b1 s1 b2 s2 hyes hno hshp hpt e0 e1 e2 hl0 hl1 hl2
    go_upto_region 4 with (fail)
    rw [← HX.out.1]
    refine wp_gen (Own w1 [(x, 93, #[.slice B0 l0 c0, .slice B1 l1 c1, .slice B2 l2 c2])]) HX.out.2 ?_
    intro w2 hS
    have z0_0 := hS.cell 0 0 rfl rfl; have z0_1 := hS.cell 0 1 rfl rfl; have z0_2 := hS.cell 0 2 rfl rfl
    have HS2 := Lib.hid hS
    clear hS
    go_wp2_with fail
    refine (D.decode_any w2 B0 _ c0 (fun k => y < k) (p 0) M H0.out.2.2 (H0.out.2.1.keeps HS2.out.keeps (fun _ _ h => h)) H0.out.1.1 H0.out.1.2).mono ?_
    rintro e w3 ⟨T0, d0, rfl, ho0, hk3⟩
    obtain ⟨q0, hq0⟩ : ∃ q, q = D.decA (p 0) M := ⟨_, rfl⟩
    rw [← hq0] at ho0 ⊢
    obtain ⟨ts, r0⟩ := q0
    have hts : r0 = 0 → ts.length = M ∧ ∀ j, I64 (ts.getD j 0) := fun h => by
      subst h
      have hd := D.decA_ok H0.out.1.1 hq0.symm
      have hi := D.decA_ints (p 0) M
      rw [← hq0] at hi
      exact ⟨by have := hd.1; omega, hi⟩
    simp only [] at ho0 ⊢
    obtain ⟨x0, hx0⟩ : ∃ x, x = w3.heap.size := ⟨_, rfl⟩
    have o3 := (HS2.out.call hk3.to_below).alloc hx0 89 #[.slice T0 ts.length d0]
    have ho0' := own_keeps ho0 ((Keeps.refl (fun _ => False) w3).alloc (.cells #[.slice T0 ts.length d0] 89)) (fun _ _ h => h)
    have H3 := Lib.hid (And.intro hx0 (And.intro o3 (And.intro ho0' (And.intro hq0 hts))))
    clear hx0 o3 ho0 ho0' hq0 hts hk3 HX z0_0 z0_1 z0_2
    go_upto_region 5 with (fail)
    rw [← H3.out.1]
    refine wp_gen (fun wz => Own w1 [(x, 93, #[.slice B0 l0 c0, .slice B1 l1 c1, .slice B2 l2 c2]), (x0, 89, #[.slice T0 ts.length d0])] wz ∧ wz.ownsRow w2.heap.size 3 1 (.slice T0 ts.length d0) ts.length (ts.map D.intZ)) ⟨H3.out.2.1, H3.out.2.2.1⟩ ?_
    rintro w4 ⟨hS, hr0⟩
    have z0_0 := hS.cell 0 0 rfl rfl; have z0_1 := hS.cell 0 1 rfl rfl; have z0_2 := hS.cell 0 2 rfl rfl; have z1_0 := hS.cell 1 0 rfl rfl
    have HS4 := Lib.hid (And.intro hS hr0)
    clear hS hr0
    go_wp2_with fail
    refine (X.xdecode_any w4 B1 _ c1 (fun k => y < k) (p 1) M H1.out.2.2 (H1.out.2.1.keeps HS4.out.1.keeps (fun _ _ h => h)) H1.out.1.1 H1.out.1.2).mono ?_
    rintro e w5 ⟨vs, r1, T1, d1, rfl, ho1, hk5, hvs, hc1⟩
    have hvl : r1 = 0 → X.decXA (p 1) M = some vs ∧ vs.length = M := fun h => by
      subst h
      rcases hc1 with ⟨-, h⟩ | ⟨⟨h, -⟩, -⟩
      · have := (X.decXA_ok H1.out.1.1 h).1
        exact ⟨h, by omega⟩
      · exact absurd rfl h
    have hvn : r1 ≠ 0 → X.decXA (p 1) M = none := fun h => by
      rcases hc1 with ⟨h', -⟩ | ⟨-, h'⟩
      · exact absurd h' h
      · exact h'
    obtain ⟨x1, hx1⟩ : ∃ x, x = w5.heap.size := ⟨_, rfl⟩
    have o5 := (HS4.out.1.call hk5.to_below).alloc hx1 90 #[.slice T1 vs.length d1]
    have hkk := (hk5.alloc (.cells #[.slice T1 vs.length d1] 90))
    have ho1' := own_keeps ho1 ((Keeps.refl (fun _ => False) w5).alloc (.cells #[.slice T1 vs.length d1] 90)) (fun _ _ h => h)
    have hr0' := own_keeps HS4.out.2 hkk (fun _ _ h => h)
    have H5 := Lib.hid (And.intro hx1 (And.intro o5 (And.intro ho1' (And.intro hr0' (And.intro hvs (And.intro hvl hvn))))))
    clear hx1 o5 ho1 ho1' hr0' hvs hvl hvn hc1 hk5 hkk z0_0 z0_1 z0_2 z1_0
    go_upto_region 6 with (fail)
    rw [← H5.out.1]
    refine wp_gen (fun wz => Own w1 [(x, 93, #[.slice B0 l0 c0, .slice B1 l1 c1, .slice B2 l2 c2]), (x0, 89, #[.slice T0 ts.length d0]), (x1, 90, #[.slice T1 vs.length d1])] wz ∧ wz.ownsRow w2.heap.size 3 1 (.slice T0 ts.length d0) ts.length (ts.map D.intZ) ∧ wz.ownsRow w4.heap.size 54 1 (.slice T1 vs.length d1) vs.length (vs.map X.u64V)) ⟨H5.out.2.1, H5.out.2.2.2.1, H5.out.2.2.1⟩ ?_
    rintro w6 ⟨hS, hr0, hr1⟩
    have z0_0 := hS.cell 0 0 rfl rfl; have z0_1 := hS.cell 0 1 rfl rfl; have z0_2 := hS.cell 0 2 rfl rfl; have z1_0 := hS.cell 1 0 rfl rfl; have z2_0 := hS.cell 2 0 rfl rfl
    have HS6 := Lib.hid (And.intro hS (And.intro hr0 hr1))
    clear hS hr0 hr1
    go_wp2_with fail
    refine (D.decode_any w6 B2 _ c2 (fun k => y < k) (p 2) M H2.out.2.2 (H2.out.2.1.keeps HS6.out.1.keeps (fun _ _ h => h)) H2.out.1.1 H2.out.1.2).mono ?_
    rintro e w7 ⟨T2, d2, rfl, ho2, hk7⟩
    obtain ⟨q2, hq2⟩ : ∃ q, q = D.decA (p 2) M := ⟨_, rfl⟩
    rw [← hq2] at ho2 ⊢
    obtain ⟨ss, r2⟩ := q2
    have hss : r2 = 0 → ss.length = M ∧ ∀ j, I64 (ss.getD j 0) := fun h => by
      subst h
      have hd := D.decA_ok H2.out.1.1 hq2.symm
      have hi := D.decA_ints (p 2) M
      rw [← hq2] at hi
      exact ⟨by have := hd.1; omega, hi⟩
    simp only [] at ho2 ⊢
    obtain ⟨x2, hx2⟩ : ∃ x, x = w7.heap.size := ⟨_, rfl⟩
    have o7 := (HS6.out.1.call hk7.to_below).alloc hx2 89 #[.slice T2 ss.length d2]
    have hkk := (hk7.alloc (.cells #[.slice T2 ss.length d2] 89))
    have ho2' := own_keeps ho2 ((Keeps.refl (fun _ => False) w7).alloc (.cells #[.slice T2 ss.length d2] 89)) (fun _ _ h => h)
    have hr0' := own_keeps HS6.out.2.1 hkk (fun _ _ h => h)
    have hr1' := own_keeps HS6.out.2.2 hkk (fun _ _ h => h)
    have H7 := Lib.hid (And.intro hx2 (And.intro o7 (And.intro ho2' (And.intro hr0' (And.intro hr1' (And.intro hq2 hss))))))
    clear hx2 o7 ho2 ho2' hr0' hr1' hq2 hss hk7 hkk z0_0 z0_1 z0_2 z1_0 z2_0
    have HNt : Hid (r0 ≠ 0 → NotEnc b) := Lib.hid (fun h => not_t (by rw [← HQ.out.2.2.1, ← HQ.out.2.2.2.2, ← H3.out.2.2.2.1]; exact h))
    have HNv : Hid (r1 ≠ 0 → NotEnc b) := Lib.hid (fun h => not_v (by rw [← HQ.out.2.2.1, ← HQ.out.2.2.2.2]; exact H5.out.2.2.2.2.2.2 h))
    have HNs : Hid (r2 ≠ 0 → NotEnc b) := Lib.hid (fun h => not_s (by rw [← HQ.out.2.2.1, ← HQ.out.2.2.2.2, ← H7.out.2.2.2.2.2.1]; exact h))
    have HK7 := Lib.hid (HQ.out.2.1.trans' H7.out.2.1.keeps)
    by_cases z0 : r0 = 0
    · by_cases z1 : r1 = 0
      · by_cases z2 : r2 = 0
        · subst z0
          subst z1
          subst z2
          have hts := H3.out.2.2.2.2 rfl
          have hvl := H5.out.2.2.2.2.2.1 rfl
          have hss := H7.out.2.2.2.2.2.2 rfl
          have k7 := (Keeps.refl (fun _ => False) (w7.alloc (.cells #[.slice T2 ss.length d2] 89))).alloc (.cells #[.int .i64 (M : Nat), capV x0 x1 x2] 149)
          obtain ⟨x3, hx3⟩ : ∃ x, x = w7.heap.size + 1 := ⟨_, rfl⟩
          have o8 := H7.out.2.1.alloc (g := x3) (by rw [hx3]; simp) 149 #[.int .i64 (M : Nat), capV x0 x1 x2]
          have s0' := row_i (own_keeps H7.out.2.2.2.1 k7 (fun _ _ h => h)) rfl
          have s1' := row_u (own_keeps H7.out.2.2.2.2.1 k7 (fun _ _ h => h)) rfl
          have s2' := row_i (own_keeps H7.out.2.2.1 k7 (fun _ _ h => h)) rfl
          rw [hts.1] at o8 s0' ⊢
          rw [hvl.2] at o8 s1' ⊢
          rw [hss.1] at o8 s0' s1' s2' k7 ⊢
          have hgp : (D.decA (cPt (F.openI b) 0) ((V.vget (F.openI b)).1 : Nat) = (ts, 0) ∧ X.decXA (cPt (F.openI b) 1) ((V.vget (F.openI b)).1 : Nat) = some vs) ∧ D.decA (cPt (F.openI b) 2) ((V.vget (F.openI b)).1 : Nat) = (ss, 0) := by
            rw [← HQ.out.2.2.1, ← HQ.out.2.2.2.2]
            exact ⟨⟨H3.out.2.2.2.1.symm, hvl.1⟩, H7.out.2.2.2.2.2.1.symm⟩
          have H8 := Lib.hid (And.intro hx3 (And.intro o8 (And.intro s0' (And.intro s1' (And.intro s2' (And.intro hgp H5.out.2.2.2.2.1))))))
          have H9 := Lib.hid H7.out.1
          clear hx3 o8 s0' s1' s2' hgp k7 hts hvl hss H3 H5 H7 HNt HNv HNs HS2 HS4 HS6 H0 H1 H2 s0 s1 s2
          go_upto_region 10 with (fail)
          rw [← H8.out.1, ← H9.out]
          refine wp_gen (fun wz => Own w1 [(x, 93, #[.slice B0 l0 c0, .slice B1 l1 c1, .slice B2 l2 c2]), (x0, 89, #[.slice T0 M d0]), (x1, 90, #[.slice T1 M d1]), (x2, 89, #[.slice T2 M d2]), (x3, 149, #[.int .i64 (M : Nat), capV x0 x1 x2])] wz ∧
            Sl wz (fun k => w2.heap.size ≤ k) T0 M (fun j => .int .i64 (ts.getD j 0)) ∧ Sl wz (fun k => w4.heap.size ≤ k) T1 M (fun j => .int .u64 (vs.getD j 0 : Nat)) ∧ Sl wz (fun k => w6.heap.size ≤ k) T2 M (fun j => .int .i64 (ss.getD j 0))) ⟨H8.out.2.1, H8.out.2.2.1, H8.out.2.2.2.1, H8.out.2.2.2.2.1⟩ ?_
          rintro w8 ⟨hS, hr0, hr1, hr2⟩
          have hcap := cap_of (hS.cell 1 0 rfl rfl) (hS.cell 2 0 rfl rfl) (hS.cell 3 0 rfl rfl) hr0 hr1 hr2
          have y0 := hS.cell 4 0 rfl rfl
          have y1 := hS.cell 4 1 rfl rfl
          have HS8 := Lib.hid (And.intro hcap (HQ.out.2.1.trans' hS.keeps))
          clear hS hr0 hr1 hr2 hcap HK7
          unfold capV at y1
          go_wp2_with fail
          refine (points_any w8 x0 x1 x2 M _ _ _ HS8.out.1 hM).mono ?_
          rintro e w9 ⟨A9, c9, rfl, hc9, hsl9, hk9⟩
          have hgf : (fun j => (⟨ts.getD j 0, IntKind.i64.wrap (vs.getD j 0 : Nat), ss.getD j 0⟩ : Pt)) = gP ts vs ss := rfl
          rw [hgf] at hsl9
          have hsl9 : SlP w9 (fun k => w.heap.size ≤ k) A9 M (gP ts vs ss) := hsl9.mono (fun k hk => Nat.le_trans HS8.out.2.size hk)
          have H10 := Lib.hid (And.intro hsl9 (HS8.out.2.trans' hk9))
          clear hsl9 hk9 hgf y0 y1
          go_wp2_with fail
          refine (cvalid_any A9 M c9 (gP ts vs ss) _ w9 H10.out.1 (by omega)).mono ?_
          rintro e w10 ⟨rfl, hb10⟩
          have HK7 := Lib.hid (H10.out.2.trans' (Keeps.of_below hb10))
          cases hv : colV (gP ts vs ss) M with
          | false =>
            have HN := Lib.hid (not_valid H8.out.2.2.2.2.2.1.1.1 H8.out.2.2.2.2.2.1.1.2 H8.out.2.2.2.2.2.1.2 (by rw [← HQ.out.2.2.2.2]; exact hv))
            clear hv hb10
            go_wp2_with fail
            go_ret2
            exact ⟨HK7.out, .inr ⟨rfl, HN.out⟩⟩
          | true =>
            have henc := enc_of_parts (fun x hx => F.mem_byte HS.out.2.2.1 x hx) HQ.out.1 H8.out.2.2.2.2.2.1.1.1 H8.out.2.2.2.2.2.1.1.2 H8.out.2.2.2.2.2.1.2 H8.out.2.2.2.2.2.2 HQ.out.2.2.2.1
            have HG := Lib.hid (And.intro (H10.out.1.below hb10) (show IsEnc b (gP ts vs ss) M from ⟨hv, by have := henc.1; rw [← HQ.out.2.2.2.2] at this; exact this⟩))
            clear hv hb10 henc
            go_wp2_with fail
            go_ret2
            exact ⟨HK7.out, .inl ⟨A9, M, c9, gP ts vs ss, rfl, hc9, HG.out.1, HG.out.2, fun j => by show I64 (IntKind.i64.wrap _); unfold I64; rw [IntKind.wrap_i64]; omega⟩⟩
        · subst z0
          subst z1
          have HN := Lib.hid (HNs.out z2)
          have e2 : (r2 != 0) = true := by simp [z2]
          go_wp2_with fail
          go_ret2
          exact ⟨HK7.out, .inr ⟨rfl, HN.out⟩⟩
      · subst z0
        have HN := Lib.hid (HNv.out z1)
        have e1 : (r1 != 0) = true := by simp [z1]
        go_wp2_with fail
        go_ret2
        exact ⟨HK7.out, .inr ⟨rfl, HN.out⟩⟩
    · have HN := Lib.hid (HNt.out z0)
      have e0 : (r0 != 0) = true := by simp [z0]
      go_wp2_with fail
      go_ret2
      exact ⟨HK7.out, .inr ⟨rfl, HN.out⟩⟩
end Go.Proofs.YtopbbicjbjmdnaaGreatDoor
namespace Go.Proofs.YtopbbicjbjmdnaaGreatDoor
def eqP (p q : Pt) : Bool := p.t == q.t && (p.v == q.v && p.s == q.s)
theorem eqP_self (p : Pt) : eqP p p = true := by unfold eqP; simp
theorem eqP_iff (p q : Pt) : eqP p q = true ↔ p = q := by
  obtain ⟨a, b, c⟩ := p
  obtain ⟨a', b', c'⟩ := q
  unfold eqP
  simp
theorem eqP_run (p q : Pt) (w : World) : (if p.t = q.t then if p.v = q.v then if p.s = q.s then Result.ok (Next.value (Value.bool true)) w else Result.ok (Next.value (Value.bool false)) w
    else Result.ok (Next.value (Value.bool false)) w else Result.ok (Next.value (Value.bool false)) w) = Result.ok (Next.value (Value.bool (eqP p q))) w := by
  unfold eqP
  by_cases h1 : p.t = q.t
  · by_cases h2 : p.v = q.v
    · by_cases h3 : p.s = q.s
      · simp [h1, h2, h3]
      · simp [h1, h2, h3]
    · simp [h1, h2]
  · simp [h1]
end Go.Proofs.YtopbbicjbjmdnaaGreatDoor
namespace Go.Proofs.YtopbbicjbjmdnaaGreatDoor
open Go.RowKit
set_option linter.unusedVariables false
set_option linter.unusedSimpArgs false
def allEq (f g : Nat → Pt) : Nat → Bool
  | 0 => true
  | n + 1 => allEq f g n && eqP (f n) (g n)
def sameL (f g : Nat → Pt) (n m : Nat) : Bool := decide (n = m) && allEq f g n
theorem allEq_not {f g : Nat → Pt} {k : Nat} (h : eqP (f k) (g k) = false) : ∀ n, k < n → allEq f g n = false
  | 0, hk => absurd hk (Nat.not_lt_zero k)
  | n + 1, hk => by
    show (allEq f g n && eqP (f n) (g n)) = false
    rcases Nat.lt_or_ge k n with h1 | h1
    · rw [allEq_not h n h1]; rfl
    · obtain rfl : k = n := by omega
      rw [h]; simp
theorem allEq_of {f g : Nat → Pt} : ∀ n, (∀ j, j < n → f j = g j) → allEq f g n = true
  | 0, _ => rfl
  | n + 1, h => by
    show (allEq f g n && eqP (f n) (g n)) = true
    rw [allEq_of n (fun j hj => h j (by omega)), h n (by omega), eqP_self]; rfl
theorem sameL_of {f g : Nat → Pt} {n m : Nat} (hn : n = m) (h : ∀ j, j < n → f j = g j) : sameL f g n m = true := by
  unfold sameL
  rw [allEq_of n h]; simp [hn]
theorem eqPn_run (p q : Pt) (w : World) : (if p.t = q.t then if p.v = q.v then if p.s = q.s then Result.ok (Next.value (Value.bool false)) w else Result.ok (Next.value (Value.bool true)) w
    else Result.ok (Next.value (Value.bool true)) w else Result.ok (Next.value (Value.bool true)) w) = Result.ok (Next.value (Value.bool (!eqP p q))) w := by
  unfold eqP
  by_cases h1 : p.t = q.t
  · by_cases h2 : p.v = q.v
    · by_cases h3 : p.s = q.s
      · simp [h1, h2, h3]
      · simp [h1, h2, h3]
    · simp [h1, h2]
  · simp [h1]
set_option maxRecDepth 100000 in
set_option maxHeartbeats 4000000 in
theorem same_any (A B : Option Addr) (n m c d : Nat) (f g : Nat → Pt) (D E : Nat → Prop) (w : World) (h1 : SlP w D A n f) (h2 : SlP w E B m g) (hn : n ≤ 9223372036854775807) (hm : m ≤ 9223372036854775807) :
    Calls Tryz.prog 11 #[.slice A n c, .slice B m d] w (BoolPost (sameL f g n m) w) := by
  have HO := Lib.hid (And.intro h1 h2)
  clear h1 h2
  go_enter Tryz.func11, Tryz.ntmps11
  by_cases hnm : n = m
  · subst hnm
    have d0 : ((n : Int) != (n : Int)) = false := by simp
    have HT := Lib.hid (show sameL f g n n = allEq f g n by unfold sameL; simp)
    go_wp2_with fail
    go_loopw [5] (fun i wr => ∃ k : Nat, k ≤ n ∧ i = .int .i64 k ∧ allEq f g k = true ∧ Own w [] wr) (fun i _ => n - (intOf i).toNat)
    case atStart => exact ⟨0, Nat.zero_le _, rfl, rfl, Own.start w⟩
    case round =>
      obtain ⟨k, hk, rfl, hall, hS⟩ := hrel
      have HA := Lib.hid hall
      clear hall
      by_cases hlt : k < n
      · obtain ⟨b, off, rfl, -, hc⟩ := HO.out.1 (by omega)
        obtain ⟨b', off', rfl, -, hc'⟩ := HO.out.2 (by omega)
        have hc := hc k hlt
        have hc' := hc' k hlt
        have HN := Lib.hid (fun h => allEq_not (f := f) (g := g) (k := k) h n hlt)
        have HY := Lib.hid (show allEq f g (k + 1) = (allEq f g k && eqP (f k) (g k)) from rfl)
        generalize f k = p at hc HN HY
        generalize g k = q at hc' HN HY
        have HC := Lib.hid (show ∀ w', Own w [] w' → (w'.cell? ⟨b, off + k * 3, none⟩ = some (.int .i64 p.t) ∧ w'.cell? ⟨b, off + k * 3 + 1, none⟩ = some (.int .i64 p.v) ∧ w'.cell? ⟨b, off + k * 3 + 2, none⟩ = some (.int .i64 p.s)) ∧
            w'.cell? ⟨b', off' + k * 3, none⟩ = some (.int .i64 q.t) ∧ w'.cell? ⟨b', off' + k * 3 + 1, none⟩ = some (.int .i64 q.v) ∧ w'.cell? ⟨b', off' + k * 3 + 2, none⟩ = some (.int .i64 q.s) from fun w' hw =>
          have old : ∀ {a : Addr} {u : Value}, w.cell? a = some u → w'.cell? a = some u := fun {a u} h => (World.cell?_of_block (w := w) (a := a) (hw.bel.block a.block (World.block_lt_of_cell? w _ h))).trans h
          ⟨⟨old hc.1, old hc.2.1, old hc.2.2⟩, old hc'.1, old hc'.2.1, old hc'.2.2⟩)
        clear hc hc'
        have HS := Lib.hid hS
        clear hS
        go_upto_region 6 with (fail)
        have hS : (Own w []) (_) := HS.out.drew
        refine reg_start (Own w []) (by kernel_rfl) hS ?_
        refine reg_take (i := 0) (v := ?_) rfl (by kernel_rfl) (by kernel_rfl) (by kernel_rfl) (fun _ _ _ h => h) (Or.inl ⟨by kernel_rfl, ?_⟩) hS ?_
        rotate_left
        · (intro w' hSw; obtain ⟨⟨c0, c1, c2⟩, c3, c4, c5⟩ := HC.out w' hSw; go_simp <;> with_reducible rfl)
        try simp only [List.getElem_toArray, List.getElem_cons_succ, List.getElem_cons_zero, Act.put, List.setIfInBounds_toArray, List.set_cons_zero, List.set_cons_succ]
        refine reg_take (i := 1) (v := ?_) rfl (by kernel_rfl) (by kernel_rfl) (by kernel_rfl) (fun _ _ _ h => h) (Or.inl ⟨by kernel_rfl, ?_⟩) hS ?_
        rotate_left
        · (intro w' hSw; obtain ⟨⟨c0, c1, c2⟩, c3, c4, c5⟩ := HC.out w' hSw; go_simp <;> with_reducible rfl)
        try simp only [List.getElem_toArray, List.getElem_cons_succ, List.getElem_cons_zero, Act.put, List.setIfInBounds_toArray, List.set_cons_zero, List.set_cons_succ]
        refine reg_take (i := 2) (v := ?_) rfl (by kernel_rfl) (by kernel_rfl) (by kernel_rfl) (fun _ _ _ h => h) (Or.inl ⟨by kernel_rfl, ?_⟩) hS ?_
        rotate_left
        · (intro w' hSw; obtain ⟨⟨c0, c1, c2⟩, c3, c4, c5⟩ := HC.out w' hSw; go_simp <;> with_reducible rfl)
        try simp only [List.getElem_toArray, List.getElem_cons_succ, List.getElem_cons_zero, Act.put, List.setIfInBounds_toArray, List.set_cons_zero, List.set_cons_succ]
        refine reg_take (i := 3) (v := ?_) rfl (by kernel_rfl) (by kernel_rfl) (by kernel_rfl) (fun _ _ _ h => h) (Or.inl ⟨by kernel_rfl, ?_⟩) hS ?_
        rotate_left
        · (intro w' hSw; obtain ⟨⟨c0, c1, c2⟩, c3, c4, c5⟩ := HC.out w' hSw; go_simp <;> with_reducible rfl)
        try simp only [List.getElem_toArray, List.getElem_cons_succ, List.getElem_cons_zero, Act.put, List.setIfInBounds_toArray, List.set_cons_zero, List.set_cons_succ]
        refine reg_take (i := 4) (v := ?_) rfl (by kernel_rfl) (by kernel_rfl) (by kernel_rfl) (fun _ _ _ h => h) (Or.inl ⟨by kernel_rfl, ?_⟩) hS ?_
        rotate_left
        · (intro w' hSw; obtain ⟨⟨c0, c1, c2⟩, c3, c4, c5⟩ := HC.out w' hSw; go_simp <;> with_reducible rfl)
        try simp only [List.getElem_toArray, List.getElem_cons_succ, List.getElem_cons_zero, Act.put, List.setIfInBounds_toArray, List.set_cons_zero, List.set_cons_succ]
        refine reg_take (i := 5) (v := ?_) rfl (by kernel_rfl) (by kernel_rfl) (by kernel_rfl) (fun _ _ _ h => h) (Or.inl ⟨by kernel_rfl, ?_⟩) hS ?_
        rotate_left
        · (intro w' hSw; obtain ⟨⟨c0, c1, c2⟩, c3, c4, c5⟩ := HC.out w' hSw; go_simp <;> with_reducible rfl)
        try simp only [List.getElem_toArray, List.getElem_cons_succ, List.getElem_cons_zero, Act.put, List.setIfInBounds_toArray, List.set_cons_zero, List.set_cons_succ]
        refine reg_take (i := 6) (v := ?_) rfl (by kernel_rfl) (by kernel_rfl) (by kernel_rfl) (fun _ _ _ h => h) (Or.inl ⟨by kernel_rfl, ?_⟩) hS ?_
        rotate_left
        · (intro w' hSw; obtain ⟨⟨c0, c1, c2⟩, c3, c4, c5⟩ := HC.out w' hSw; go_simp <;> with_reducible rfl)
        try simp only [List.getElem_toArray, List.getElem_cons_succ, List.getElem_cons_zero, Act.put, List.setIfInBounds_toArray, List.set_cons_zero, List.set_cons_succ]
        refine reg_take (i := 7) (v := ?_) rfl (by kernel_rfl) (by kernel_rfl) (by kernel_rfl) (fun _ _ _ h => h) (Or.inl ⟨by kernel_rfl, ?_⟩) hS ?_
        rotate_left
        · (intro w' hSw; obtain ⟨⟨c0, c1, c2⟩, c3, c4, c5⟩ := HC.out w' hSw; go_simp <;> with_reducible rfl)
        try simp only [List.getElem_toArray, List.getElem_cons_succ, List.getElem_cons_zero, Act.put, List.setIfInBounds_toArray, List.set_cons_zero, List.set_cons_succ]
        refine reg_take (i := 8) (v := .bool (!eqP p q)) rfl (by kernel_rfl) (by kernel_rfl) (by kernel_rfl) (fun _ _ _ h => h) (Or.inl ⟨by kernel_rfl, ?_⟩) hS ?_
        · (intro w' hSw; go_simp; exact eqPn_run _ _ _)
        try simp only [List.getElem_toArray, List.getElem_cons_succ, List.getElem_cons_zero, Act.put, List.setIfInBounds_toArray, List.set_cons_zero, List.set_cons_succ]
        refine wpAnyH_done (by kernel_rfl) ?_ _
        try simp only [List.getElem_toArray, List.getElem_cons_succ, List.getElem_cons_zero]
        try simp only [List.getElem_toArray, List.getElem_cons_succ, List.getElem_cons_zero, Act.put, List.setIfInBounds_toArray, List.set_cons_zero, List.set_cons_succ]
        have HP := Lib.hid hS
        clear hS HS
        cases he : eqP p q with
        | false =>
          have HF := Lib.hid (show sameL f g n n = false by rw [HT.out, HN.out he])
          simp only [he, Bool.not_false]
          go_wp2_with fail
          go_ret
          exact ⟨by rw [HF.out]; rfl, HP.out.bel⟩
        | true =>
          have HF := Lib.hid (show allEq f g (k + 1) = true by rw [HY.out, HA.out, he]; rfl)
          simp only [he, Bool.not_true]
          go_wp2_with fail
          go_roundw
          case rel => exact ⟨k + 1, by omega, by go_num, HF.out, HP.out⟩
          case measure => simp [intOf]; omega
      · obtain rfl : k = n := by omega
        have HB := Lib.hid hS.bel
        clear hS
        go_wp2_with fail
        go_ret
        exact ⟨by rw [HT.out, HA.out]; rfl, HB.out⟩
  · have d0 : ((n : Int) != (m : Int)) = true := by simp; omega
    have HT := Lib.hid (show sameL f g n m = false by unfold sameL; simp [hnm])
    have d1 : ¬ (n : Int) = (m : Int) := by omega
    go_wp2_with fail
    go_ret
    exact ⟨by rw [HT.out]; rfl, Below.refl _ _⟩
end Go.Proofs.YtopbbicjbjmdnaaGreatDoor
namespace Go.Proofs.YtopbbicjbjmdnaaGreatDoor
open Go.RowKit
set_option linter.unusedVariables false
set_option linter.unusedSimpArgs false
theorem slp_one (w : World) (t : TypeId) (p : Pt) : SlP (w.alloc (.cells #[.int .i64 p.t, .int .i64 p.v, .int .i64 p.s] t)) (fun k => k = w.heap.size) (some ⟨w.heap.size, 0, none⟩) 1 (fun _ => p) := fun _ => by
  have h := Blk.fresh w t #[.int .i64 p.t, .int .i64 p.v, .int .i64 p.s]
  refine ⟨w.heap.size, 0, rfl, rfl, fun j hj => ?_⟩
  obtain rfl : j = 0 := by omega
  exact ⟨h.cell 0, h.cell 1, h.cell 2⟩
theorem slp_two (w : World) (t : TypeId) (p q : Pt) : SlP (w.alloc (.cells #[.int .i64 p.t, .int .i64 p.v, .int .i64 p.s, .int .i64 q.t, .int .i64 q.v, .int .i64 q.s] t)) (fun k => k = w.heap.size) (some ⟨w.heap.size, 0, none⟩) 2 (fun j => if j = 0 then p else q) := fun _ => by
  have h := Blk.fresh w t #[.int .i64 p.t, .int .i64 p.v, .int .i64 p.s, .int .i64 q.t, .int .i64 q.v, .int .i64 q.s]
  refine ⟨w.heap.size, 0, rfl, rfl, fun j hj => ?_⟩
  rcases (show j = 0 ∨ j = 1 by omega) with rfl | rfl
  · exact ⟨h.cell 0, h.cell 1, h.cell 2⟩
  · exact ⟨h.cell 3, h.cell 4, h.cell 5⟩
/-- What is a block's encoding is what Encode tells. -/
theorem enc_L {f : Nat → Pt} {n : Nat} {b : List Nat} (h : IsEnc b f n) : colL f n = (b, 0) := by rw [colL_ok h.1, h.2]
theorem L_enc {f : Nat → Pt} {n : Nat} {b : List Nat} (h : colL f n = (b, 0)) : IsEnc b f n := by
  unfold colL at h
  by_cases hv : colV f n = true
  · rw [if_pos hv] at h
    injection h with h _
    exact ⟨hv, h⟩
  · rw [if_neg hv] at h
    injection h with _ h
    cases h
theorem L_cases (f : Nat → Pt) (n : Nat) : (colV f n = true ∧ colL f n = (F.sealL 3 (colUp f n 3), 0) ∧ IsEnc (F.sealL 3 (colUp f n 3)) f n) ∨ (colV f n = false ∧ colL f n = ([], 2)) := by
  unfold colL
  cases hv : colV f n with
  | true => exact .inl ⟨rfl, by rw [if_pos rfl], hv, rfl⟩
  | false => exact .inr ⟨rfl, by rw [if_neg (by simp)]⟩
theorem enc_n {f : Nat → Pt} {n : Nat} {b : List Nat} (h : IsEnc b f n) : 0 < n ∧ n ≤ 4096 := (colV_spec h.1).2
theorem enc_open {f : Nat → Pt} {n : Nat} {b : List Nat} (h : IsEnc b f n) : F.openE b = 0 := (parts_of_enc h.1 h.2).1.e
theorem enc_bytes {f : Nat → Pt} {n : Nat} {b : List Nat} (h : IsEnc b f n) : ∀ x ∈ b, x < 256 := by
  rw [← h.2]
  exact F.sealL_byte (by omega) (colUp_byte f n 3)
theorem enc_len {f : Nat → Pt} {n : Nat} {b : List Nat} (h : IsEnc b f n) : 9 ≤ b.length ∧ b.length ≤ 120060 := by
  rw [← h.2, F.sealL_length]
  have := colUp_len f n (enc_n h).2 3
  omega
theorem getD_of {b : List Nat} (h : ∀ x ∈ b, x < 256) : ∀ j, b.getD j 0 < 256 := V.getD_all_lt h
end Go.Proofs.YtopbbicjbjmdnaaGreatDoor
namespace Go.Proofs.YtopbbicjbjmdnaaGreatDoor
open Go.RowKit Go.Maps
set_option maxRecDepth 100000
set_option linter.unusedVariables false
set_option linter.unusedSimpArgs false
/-- Lists that only grow. -/
theorem pre_more {g s : Nat → List Nat} (h : ∀ i, g (i + 1) = g i ++ s i) (i : Nat) : ∀ d, ∃ r, g (i + d) = g i ++ r
  | 0 => ⟨[], by simp⟩
  | d + 1 => by
    obtain ⟨r, hr⟩ := pre_more h i d
    exact ⟨r ++ s (i + d), by rw [show i + (d + 1) = (i + d) + 1 by omega, h, hr, List.append_assoc]⟩
theorem pre_le {g s : Nat → List Nat} (h : ∀ i, g (i + 1) = g i ++ s i) {i k : Nat} (hi : i ≤ k) : ∃ r, g k = g i ++ r := by
  obtain ⟨r, hr⟩ := pre_more h i (k - i)
  exact ⟨r, by rw [← hr, show i + (k - i) = k by omega]⟩
theorem drop_step {g s : Nat → List Nat} (h : ∀ i, g (i + 1) = g i ++ s i) {i k : Nat} (hi : i < k) : (g k).drop (g i).length = s i ++ (g k).drop (g (i + 1)).length := by
  obtain ⟨r, hr⟩ := pre_le h (show i + 1 ≤ k from hi)
  have e1 : (g k).drop (g (i + 1)).length = r := by rw [hr, List.drop_left]
  rw [e1, hr, h, List.append_assoc, List.drop_left]
theorem bO_succ (f : Nat → Pt) (n i : Nat) : bO f n (i + 1) = bO f n i ++ (colL (shiftP f (1024 * i)) (blkN n (1024 * i))).1 := rfl
theorem bF_succ (f : Nat → Pt) (n i : Nat) : bF f n (i + 1) = bF f n i ++ footB (shiftP f (1024 * i)) (blkN n (1024 * i)) := rfl
theorem sO_succ (pf : Nat → Nat → Pt) (pn : Nat → Nat) (i : Nat) : sO pf pn (i + 1) = sO pf pn i ++ bO (pf i) (pn i) (nbl (pn i)) := rfl
theorem sF_succ (nm : Nat → ByteArray) (pf : Nat → Nat → Pt) (pn : Nat → Nat) (k i : Nat) : sF nm pf pn k (i + 1) = sF nm pf pn k i ++ (V.vput (nbl (pn i)) ++ bF (pf i) (pn i) (nbl (pn i))) := by
  show (sF nm pf pn k i ++ V.vput (nbl (pn i))) ++ _ = _
  rw [List.append_assoc]
/-- What is left of the foot behind the first i parts. -/
def sT (nm : Nat → ByteArray) (pf : Nat → Nat → Pt) (pn : Nat → Nat) (k i : Nat) : List Nat := (sF nm pf pn k k).drop (sF nm pf pn k i).length
theorem sT_step (nm : Nat → ByteArray) (pf : Nat → Nat → Pt) (pn : Nat → Nat) {k i : Nat} (hi : i < k) : sT nm pf pn k i = V.vput (nbl (pn i)) ++ (bF (pf i) (pn i) (nbl (pn i)) ++ sT nm pf pn k (i + 1)) := by
  unfold sT
  rw [drop_step (sF_succ nm pf pn k) hi, List.append_assoc]
theorem sT_end (nm : Nat → ByteArray) (pf : Nat → Nat → Pt) (pn : Nat → Nat) (k : Nat) : sT nm pf pn k k = [] := by unfold sT; exact List.drop_eq_nil_of_le (Nat.le_refl _)
theorem sF_names (nm : Nat → ByteArray) (pf : Nat → Nat → Pt) (pn : Nat → Nat) (k : Nat) : sF nm pf pn k k = namesB nm k k ++ sT nm pf pn k 0 := by
  obtain ⟨r, hr⟩ := pre_le (sF_succ nm pf pn k) (Nat.zero_le k)
  unfold sT
  have e : sF nm pf pn k 0 = namesB nm k k := rfl
  rw [e] at hr ⊢
  rw [hr, List.drop_left]
/-- What is left of a part's blocks in the foot behind the first m. -/
def bT (f : Nat → Pt) (n m : Nat) : List Nat := (bF f n (nbl n)).drop (bF f n m).length
theorem bT_zero (f : Nat → Pt) (n : Nat) : bT f n 0 = bF f n (nbl n) := rfl
theorem bT_end (f : Nat → Pt) (n : Nat) : bT f n (nbl n) = [] := by unfold bT; exact List.drop_eq_nil_of_le (Nat.le_refl _)
theorem bT_step (f : Nat → Pt) (n : Nat) {m : Nat} (hm : m < nbl n) : bT f n m = footB (shiftP f (1024 * m)) (blkN n (1024 * m)) ++ bT f n (m + 1) := by
  unfold bT
  exact drop_step (bF_succ f n) hm
/-- A part's block, as the foot tells it. -/
def bkOf (pf : Nat → Nat → Pt) (pn : Nat → Nat) (i m : Nat) : Bk :=
  ⟨(sO pf pn i).length + (bO (pf i) (pn i) m).length, (colL (shiftP (pf i) (1024 * m)) (blkN (pn i) (1024 * m))).1.length, (pf i (1024 * m)).t, (pf i (1024 * m + (blkN (pn i) (1024 * m) - 1))).t, blkN (pn i) (1024 * m)⟩
theorem bk_next (pf : Nat → Nat → Pt) (pn : Nat → Nat) (i m : Nat) : (bkOf pf pn i (m + 1)).a = (bkOf pf pn i m).a + (bkOf pf pn i m).b := by
  show (sO pf pn i).length + (bO (pf i) (pn i) (m + 1)).length = (sO pf pn i).length + (bO (pf i) (pn i) m).length + _
  rw [bO_succ, List.length_append, Nat.add_assoc]
  rfl
theorem bk_first (pf : Nat → Nat → Pt) (pn : Nat → Nat) (i : Nat) : (bkOf pf pn i 0).a = (sO pf pn i).length := by show (sO pf pn i).length + ([] : List Nat).length = _; simp
theorem bk_last (pf : Nat → Nat → Pt) (pn : Nat → Nat) (i : Nat) : (bkOf pf pn i (nbl (pn i))).a = (sO pf pn (i + 1)).length := by
  show (sO pf pn i).length + (bO (pf i) (pn i) (nbl (pn i))).length = _
  rw [sO_succ, List.length_append]
/-- Where a block's bytes lie. -/
theorem bk_bytes (pf : Nat → Nat → Pt) (pn : Nat → Nat) {k i m : Nat} (hi : i < k) (hm : m < nbl (pn i)) : ∃ l r, sO pf pn k = l ++ ((colL (shiftP (pf i) (1024 * m)) (blkN (pn i) (1024 * m))).1 ++ r) ∧ l.length = (bkOf pf pn i m).a := by
  obtain ⟨r1, h1⟩ := pre_le (sO_succ pf pn) (show i + 1 ≤ k from hi)
  obtain ⟨r2, h2⟩ := pre_le (bO_succ (pf i) (pn i)) (show m + 1 ≤ nbl (pn i) from hm)
  refine ⟨sO pf pn i ++ bO (pf i) (pn i) m, r2 ++ r1, ?_, by rw [List.length_append]; rfl⟩
  rw [h1, sO_succ, h2, bO_succ]
  simp only [List.append_assoc]
theorem bk_le (pf : Nat → Nat → Pt) (pn : Nat → Nat) {k i m : Nat} (hi : i < k) (hm : m < nbl (pn i)) : (bkOf pf pn i m).a + (bkOf pf pn i m).b ≤ (sO pf pn k).length := by
  obtain ⟨l, r, h1, h2⟩ := bk_bytes pf pn hi hm
  rw [h1, List.length_append, List.length_append, h2]
  show _ + (colL (shiftP (pf i) (1024 * m)) (blkN (pn i) (1024 * m))).1.length ≤ _
  omega
theorem bk_slice (pf : Nat → Nat → Pt) (pn : Nat → Nat) {k i m : Nat} (hi : i < k) (hm : m < nbl (pn i)) : ((sO pf pn k).drop (bkOf pf pn i m).a).take (bkOf pf pn i m).b = (colL (shiftP (pf i) (1024 * m)) (blkN (pn i) (1024 * m))).1 := by
  obtain ⟨l, r, h1, h2⟩ := bk_bytes pf pn hi hm
  rw [h1, ← h2, List.drop_left]
  exact List.take_left
theorem bV_step {f : Nat → Pt} {n : Nat} : ∀ k, bV f n k = true → ∀ m, m < k → stepV f n m = true
  | 0, _, m, hm => by omega
  | k + 1, h, m, hm => by
    have h' : (bV f n k && stepV f n k) = true := h
    rw [Bool.and_eq_true] at h'
    rcases Nat.lt_or_ge m k with h1 | h1
    · exact bV_step k h'.1 m h1
    · rw [show m = k by omega]; exact h'.2
/-- What is known of one block of a part that is valid. -/
structure BkOk (f : Nat → Pt) (n m : Nat) : Prop where
  v : colV (shiftP f (1024 * m)) (blkN n (1024 * m)) = true
  up : m ≠ 0 → (f (1024 * m - 1)).t < (f (1024 * m)).t
  n0 : 1 ≤ blkN n (1024 * m)
  n1 : blkN n (1024 * m) ≤ 1024
  le : 1024 * m + blkN n (1024 * m) ≤ n
  full : m + 1 < nbl n → blkN n (1024 * m) = 1024
  last : m + 1 = nbl n → 1024 * m + blkN n (1024 * m) = n
  b0 : 9 ≤ (colL (shiftP f (1024 * m)) (blkN n (1024 * m))).1.length
  b1 : (colL (shiftP f (1024 * m)) (blkN n (1024 * m))).1.length ≤ 120060
theorem bk_ok {f : Nat → Pt} {n m : Nat} (h : bV f n (nbl n) = true) (hm : m < nbl n) : BkOk f n m := by
  have hs := bV_step _ h m hm
  unfold stepV at hs
  simp only [Bool.and_eq_true, Bool.or_eq_true, beq_iff_eq, decide_eq_true_eq] at hs
  have hE : IsEnc (colL (shiftP f (1024 * m)) (blkN n (1024 * m))).1 (shiftP f (1024 * m)) (blkN n (1024 * m)) := by
    rcases L_cases (shiftP f (1024 * m)) (blkN n (1024 * m)) with ⟨_, h2, h3⟩ | ⟨h1, _⟩
    · rw [h2]; exact h3
    · rw [h1] at hs; cases hs.1
  have hl := enc_len hE
  unfold nbl at hm
  refine ⟨hs.1, fun h0 => hs.2.resolve_left h0, ?_, ?_, ?_, fun h1 => ?_, fun h1 => ?_, hl.1, hl.2⟩ <;> (try unfold nbl at h1) <;> unfold blkN <;> omega
theorem bk_enc {f : Nat → Pt} {n m : Nat} (h : BkOk f n m) : IsEnc (colL (shiftP f (1024 * m)) (blkN n (1024 * m))).1 (shiftP f (1024 * m)) (blkN n (1024 * m)) := by
  rcases L_cases (shiftP f (1024 * m)) (blkN n (1024 * m)) with ⟨_, h2, h3⟩ | ⟨h1, _⟩
  · rw [h2]; exact h3
  · have := h.v; rw [h1] at this; cases this
theorem bk_pt {f : Nat → Pt} {n m : Nat} (h : BkOk f n m) {j : Nat} (hj : j < blkN n (1024 * m)) : colOk (shiftP f (1024 * m)) j = true := colAll_at _ (colV_spec h.v).1 j hj
theorem bk_rise {f : Nat → Pt} {n m : Nat} (h : BkOk f n m) {j : Nat} (hj : j + 1 < blkN n (1024 * m)) : (f (1024 * m + j)).t < (f (1024 * m + (j + 1))).t := ((colOk_iff _ _).1 (bk_pt h hj)).1
/-- A valid part's points: times that rise, and are in their range. -/
theorem part_next {f : Nat → Pt} {n : Nat} (h : bV f n (nbl n) = true) {j : Nat} (hj : j + 1 < n) : (f j).t < (f (j + 1)).t := by
  have hm : (j + 1) / 1024 < nbl n := by unfold nbl; omega
  have hb := bk_ok h hm
  rcases Nat.eq_zero_or_pos ((j + 1) % 1024) with h0 | h0
  · have := hb.up (by omega)
    rw [show 1024 * ((j + 1) / 1024) = j + 1 by omega] at this
    simpa using this
  · have := bk_rise hb (j := (j + 1) % 1024 - 1) (by unfold blkN; omega)
    rw [show 1024 * ((j + 1) / 1024) + ((j + 1) % 1024 - 1) = j by omega, show 1024 * ((j + 1) / 1024) + ((j + 1) % 1024 - 1 + 1) = j + 1 by omega] at this
    exact this
theorem part_rise {f : Nat → Pt} {n : Nat} (h : bV f n (nbl n) = true) (i : Nat) : ∀ d, i + (d + 1) < n → (f i).t < (f (i + (d + 1))).t
  | 0, hd => part_next h hd
  | d + 1, hd => by
    have h1 := part_rise h i d (by omega)
    have h2 := part_next h (j := i + (d + 1)) (by omega)
    rw [show i + (d + 1 + 1) = i + (d + 1) + 1 by omega]
    omega
theorem part_lt {f : Nat → Pt} {n : Nat} (h : bV f n (nbl n) = true) {i j : Nat} (hij : i < j) (hj : j < n) : (f i).t < (f j).t := by
  have := part_rise h i (j - i - 1) (by omega)
  rw [show i + (j - i - 1 + 1) = j by omega] at this
  exact this
theorem part_range {f : Nat → Pt} {n : Nat} (h : bV f n (nbl n) = true) {j : Nat} (hj : j < n) : -1152921504606846976 ≤ (f j).t ∧ (f j).t ≤ 1152921504606846976 := by
  have hm : j / 1024 < nbl n := by unfold nbl; omega
  have hb := bk_ok h hm
  have h1 := (colOk_iff _ _).1 (bk_pt hb (j := j % 1024) (by unfold blkN; omega))
  have h2 : shiftP f (1024 * (j / 1024)) (j % 1024) = f j := by unfold shiftP; rw [show 1024 * (j / 1024) + j % 1024 = j by omega]
  rw [h2] at h1
  refine ⟨?_, h1.2.1⟩
  have h3 : ∀ i, i < n → -1152921504606846976 ≤ (f 0).t := fun i _ => by
    have hb0 := bk_ok h (m := 0) (by omega)
    have := ((colOk_iff _ _).1 (bk_pt hb0 (j := 0) (by have := hb0.n0; omega))).1
    have e : shiftP f (1024 * 0) 0 = f 0 := by unfold shiftP; rfl
    rw [e] at this
    show _ ≤ _
    have e2 : colT (shiftP f (1024 * 0)) 0 = -1152921504606846977 := rfl
    rw [e2] at this
    omega
  rcases Nat.eq_zero_or_pos j with h0 | h0
  · subst h0; exact h3 0 hj
  · have := part_lt h h0 hj; have := h3 j hj; omega
theorem bk_to {f : Nat → Pt} {n m : Nat} (hm : m + 1 < nbl n) (h : BkOk f n m) : (f (1024 * m + (blkN n (1024 * m) - 1))).t = (f (1024 * (m + 1) - 1)).t := by
  rw [h.full hm, show 1024 * m + (1024 - 1) = 1024 * (m + 1) - 1 by omega]
/-- The points of a span. -/
def inS (a b : Int) (p : Pt) : Bool := decide (a ≤ p.t) && decide (p.t < b)
def selL (f : Nat → Pt) (a b : Int) : Nat → List Pt
  | 0 => []
  | k + 1 => if inS a b (f k) = true then selL f a b k ++ [f k] else selL f a b k
theorem selL_len (f : Nat → Pt) (a b : Int) : ∀ k, (selL f a b k).length ≤ k
  | 0 => Nat.le_refl _
  | k + 1 => by
    have := selL_len f a b k
    show (if inS a b (f k) = true then selL f a b k ++ [f k] else selL f a b k).length ≤ k + 1
    split
    · rw [List.length_append]; simp; omega
    · omega
theorem selL_skip {f : Nat → Pt} {a b : Int} {i : Nat} : ∀ d, (∀ j, i ≤ j → j < i + d → inS a b (f j) = false) → selL f a b (i + d) = selL f a b i
  | 0, _ => rfl
  | d + 1, h => by
    show (if inS a b (f (i + d)) = true then _ else selL f a b (i + d)) = _
    rw [h (i + d) (by omega) (by omega)]
    exact selL_skip d (fun j h1 h2 => h j h1 (by omega))
theorem selL_all {f : Nat → Pt} {a b : Int} : ∀ k, (∀ j, j < k → inS a b (f j) = true) → selL f a b k = (List.range k).map f
  | 0, _ => rfl
  | k + 1, h => by
    show (if inS a b (f k) = true then selL f a b k ++ [f k] else _) = _
    rw [if_pos (h k (by omega)), selL_all k (fun j hj => h j (by omega)), List.range_succ, List.map_append]
    rfl
/-- A block that lies outside a span has no point of it. -/
theorem bk_skip {f : Nat → Pt} {n m : Nat} {a b : Int} (hv : bV f n (nbl n) = true) (hm : m < nbl n) (h : b ≤ a ∨ (f (1024 * m + (blkN n (1024 * m) - 1))).t < a ∨ b ≤ (f (1024 * m)).t) : selL f a b (1024 * m + blkN n (1024 * m)) = selL f a b (1024 * m) := by
  have hb := bk_ok hv hm
  refine selL_skip _ fun j h1 h2 => ?_
  have hle := hb.le
  have h3 : (f (1024 * m)).t ≤ (f j).t := by
    rcases Nat.lt_or_ge (1024 * m) j with h4 | h4
    · exact Int.le_of_lt (part_lt hv h4 (by omega))
    · rw [show j = 1024 * m by omega]; exact Int.le_refl _
  have h4 : (f j).t ≤ (f (1024 * m + (blkN n (1024 * m) - 1))).t := by
    rcases Nat.lt_or_ge j (1024 * m + (blkN n (1024 * m) - 1)) with h5 | h5
    · exact Int.le_of_lt (part_lt hv h5 (by omega))
    · rw [show j = 1024 * m + (blkN n (1024 * m) - 1) by omega]; exact Int.le_refl _
  unfold inS
  rw [Bool.and_eq_false_iff, decide_eq_false_iff_not, decide_eq_false_iff_not]
  omega
theorem bk_end {f : Nat → Pt} {n m : Nat} (h : BkOk f n m) (hm : m + 1 ≤ nbl n) : 1024 * m + blkN n (1024 * m) = min (1024 * (m + 1)) n := by
  have := h.le
  rcases Nat.lt_or_ge (m + 1) (nbl n) with h1 | h1
  · have := h.full h1; omega
  · have := h.last (by omega); have := h.n1; omega
end Go.Proofs.YtopbbicjbjmdnaaGreatDoor
namespace Go.Proofs.YtopbbicjbjmdnaaGreatDoor
open Go.RowKit Go.Maps
set_option maxRecDepth 100000
set_option linter.unusedVariables false
set_option linter.unusedSimpArgs false
theorem oneU8s (w : World) : (sizeOf 5).run Tryz.prog w = .ok 1 w := by kernel_rfl
theorem err_nil_ne (w : World) : (binOp .neq 69 .nilIface .nilIface).run Tryz.prog w = .ok (.bool false) w := by kernel_rfl
theorem err_nil_eq (w : World) : (binOp .eql 69 .nilIface .nilIface).run Tryz.prog w = .ok (.bool true) w := by kernel_rfl
theorem wrong_no (w : World) (y : Nat) : Calls Tryz.prog 26 #[.pointer (some ⟨y, 0, none⟩), .bool false] w fun e w' => e = .returned (.tuple #[]) ∧ Below w.heap.size w w' := by
  go_enter Tryz.func26, Tryz.ntmps26
  go_wp2_with fail
  exact bodyPost_end (v := .tuple #[]) (by simp [results, Tryz.results26, go_sem]) rfl ⟨rfl, Below.refl _ _⟩
def RdPost (w : World) (y : Nat) (v : Value) (l : List Nat) (e : Ending) (w' : World) : Prop := e = .returned v ∧ w.grownBy w' (some y) ∧ RdAt w' y l
theorem vput_rest {u : Nat} {rest : List Nat} (hu : u < 18446744073709551616) : (V.vget (V.vput u ++ rest)) = (u, (V.vput u).length, 0) := V.vget_vput u rest hu
set_option maxHeartbeats 400000 in
theorem num_ok (w : World) (y u most : Nat) (rest : List Nat) (h : RdAt w y (V.vput u ++ rest)) (hu : 1 ≤ u) (hm : u ≤ most) (hmo : most ≤ 1048576) (hv : V.HErr w) :
    Calls Tryz.prog 27 #[.pointer (some ⟨y, 0, none⟩), .int .u64 (most : Nat)] w (RdPost w y (.int .i64 (u : Nat)) rest) := by
  have q1 := err_nil_ne
  have hg := vput_rest (u := u) (rest := rest) (by omega)
  obtain ⟨l, hl⟩ : ∃ l, l = V.vput u ++ rest := ⟨_, rfl⟩
  obtain ⟨n, hn⟩ : ∃ n, n = (V.vput u).length := ⟨_, rfl⟩
  have hdr : l.drop n = rest := by rw [hl, hn, List.drop_left]
  have hle : n ≤ l.length := by rw [hl, hn, List.length_append]; omega
  rw [← hl] at h hg
  rw [← hn] at hg
  obtain ⟨A, c, hb, hsl, hlc, hcm, hby⟩ := id h
  obtain ⟨len, hlen⟩ : ∃ len, len = l.length := ⟨_, rfl⟩
  rw [← hlen] at hb hsl hlc hle
  obtain ⟨A2, hA1, hA2⟩ := V.slice_from (P := Tryz.prog) 25 5 Tryz.underlying25 oneU8s A len c n hle hlc
  have zc := hb.cell 0
  have HS := Lib.hid (And.intro h (And.intro hb (And.intro hsl (And.intro hby (And.intro hlen.symm (And.intro hdr (And.intro hg (And.intro hv hA2))))))))
  clear h hb hsl hby hlen hdr hg hv hA2 hl hn
  go_enter Tryz.func27, Tryz.ntmps27
  go_wp2_with fail
  refine (V.vread_any _ _ A len c l HS.out.2.2.2.2.1 HS.out.2.2.2.1 HS.out.2.2.1 (by omega) HS.out.2.2.2.2.2.2.2.1).mono ?_
  rintro e w1 ⟨rfl, hb1⟩
  rw [HS.out.2.2.2.2.2.2.1]
  have h1 := HS.out.1.call hb1
  have hk1 := HS.out.2.1.below hb1 HS.out.2.1.lt
  have zc1 := hk1.cell 0
  have zf1 := hk1.frozen
  have hs2 := HS.out.2.2.2.2.2.2.2.2 w1 _ l (HS.out.2.2.1.below hb1 (fun q _ hq => hq))
  have h2 := h1.next (n := n) (A' := A2) (c' := c - n) (by rw [HS.out.2.2.2.2.1]; exact hs2) (by rw [HS.out.2.2.2.2.1]; omega) (by omega) (by rw [HS.out.2.2.2.2.1]; exact hle)
  rw [HS.out.2.2.2.2.1, HS.out.2.2.2.2.2.1] at h2
  have hg2 : w.grownBy (w1.setCell ⟨y, 0, none⟩ (.slice A2 (len - n) (c - n))) (some y) := gb_trans (gb_below hb1 _) (grown_set w1 y 0 _)
  have HT := Lib.hid (And.intro h2 hg2)
  clear zc h1 hk1 hs2 h2 hg2 hb1
  go_upto_region 3 with (fail)
  clear zc1 zf1 hA1
  refine wp_gen (fun wx => RdAt wx y rest ∧ w.grownBy wx (some y)) HT.out ?_
  rintro w3 ⟨h3, hg3⟩
  have d1 : decide ((u : Int) = 0) = false := by simp; omega
  have d2 : decide (most < u) = false := by simp; omega
  have d3 : ((u : Int) == 0) = false := by simp; omega
  have H3 := Lib.hid (And.intro h3 hg3)
  clear h3 hg3
  go_wp2_with fail
  refine (wrong_no w3 y).mono ?_
  rintro e w4 ⟨rfl, hb4⟩
  have h4 := H3.out.1.call hb4
  obtain ⟨A4, c4, hb4', -⟩ := id h4
  have zc4 := hb4'.cell 1
  have ku : IntKind.i64.wrap (u : Int) = (u : Int) := IntWalk.i64_in _ (by omega)
  have H4 := Lib.hid (And.intro h4 (gb_trans H3.out.2 (gb_below hb4 _)))
  clear h4 hb4 hb4'
  go_wp2_with fail
  go_ret
  exact ⟨rfl, H4.out.2, H4.out.1⟩
set_option maxHeartbeats 400000 in
theorem time_ok (w : World) (y : Nat) (t : Int) (rest : List Nat) (h : RdAt w y (V.vput (zig t) ++ rest)) (h0 : -1152921504606846976 ≤ t) (h1 : t ≤ 1152921504606846976) (hv : V.HErr w) :
    Calls Tryz.prog 46 #[.pointer (some ⟨y, 0, none⟩)] w (RdPost w y (.int .i64 t) rest) := by
  have hg := vput_rest (u := zig t) (rest := rest) (zig_lt (by omega) (by omega))
  obtain ⟨l, hl⟩ : ∃ l, l = V.vput (zig t) ++ rest := ⟨_, rfl⟩
  obtain ⟨n, hn⟩ : ∃ n, n = (V.vput (zig t)).length := ⟨_, rfl⟩
  have hdr : l.drop n = rest := by rw [hl, hn, List.drop_left]
  have hle : n ≤ l.length := by rw [hl, hn, List.length_append]; omega
  rw [← hl] at h hg
  rw [← hn] at hg
  obtain ⟨A, c, hb, hsl, hlc, hcm, hby⟩ := id h
  obtain ⟨len, hlen⟩ : ∃ len, len = l.length := ⟨_, rfl⟩
  rw [← hlen] at hb hsl hlc hle
  obtain ⟨A2, hA1, hA2⟩ := V.slice_from (P := Tryz.prog) 25 5 Tryz.underlying25 oneU8s A len c n hle hlc
  have zc := hb.cell 0
  have HS := Lib.hid (And.intro h (And.intro hb (And.intro hsl (And.intro hby (And.intro hlen.symm (And.intro hdr (And.intro hg (And.intro hv hA2))))))))
  clear h hb hsl hby hlen hdr hg hv hA2 hl hn
  go_enter Tryz.func46, Tryz.ntmps46
  go_wp2_with fail
  refine (V.vreadInt_any _ _ A len c l HS.out.2.2.2.2.1 HS.out.2.2.2.1 HS.out.2.2.1 (by omega) HS.out.2.2.2.2.2.2.2.1).mono ?_
  rintro e w1 ⟨rfl, hb1⟩
  rw [HS.out.2.2.2.2.2.2.1, zag_zig]
  have h1 := HS.out.1.call hb1
  have hk1 := HS.out.2.1.below hb1 HS.out.2.1.lt
  have zc1 := hk1.cell 0
  have zf1 := hk1.frozen
  have hs2 := HS.out.2.2.2.2.2.2.2.2 w1 _ l (HS.out.2.2.1.below hb1 (fun q _ hq => hq))
  have h2 := h1.next (n := n) (A' := A2) (c' := c - n) (by rw [HS.out.2.2.2.2.1]; exact hs2) (by rw [HS.out.2.2.2.2.1]; omega) (by omega) (by rw [HS.out.2.2.2.2.1]; exact hle)
  rw [HS.out.2.2.2.2.1, HS.out.2.2.2.2.2.1] at h2
  have hg2 : w.grownBy (w1.setCell ⟨y, 0, none⟩ (.slice A2 (len - n) (c - n))) (some y) := gb_trans (gb_below hb1 _) (grown_set w1 y 0 _)
  have HT := Lib.hid (And.intro h2 hg2)
  clear zc h1 hk1 hs2 h2 hg2 hb1
  go_upto_region 3 with (fail)
  clear zc1 zf1 hA1
  refine wp_gen (fun wx => RdAt wx y rest ∧ w.grownBy wx (some y)) HT.out ?_
  rintro w3 ⟨h3, hg3⟩
  have d1 : decide (t < -1152921504606846976) = false := by simp; omega
  have d2 : decide ((1152921504606846976 : Int) < t) = false := by simp; omega
  have H3 := Lib.hid (And.intro h3 hg3)
  clear h3 hg3
  go_wp2_with fail
  refine (wrong_no w3 y).mono ?_
  rintro e w4 ⟨rfl, hb4⟩
  have H4 := Lib.hid (And.intro (H3.out.1.call hb4) (gb_trans H3.out.2 (gb_below hb4 _)))
  clear hb4
  go_wp2_with fail
  go_ret
  exact ⟨rfl, H4.out.2, H4.out.1⟩
/-- What the foot tells of a block, as bytes. -/
def footK (x : Bk) : List Nat := V.vput x.b ++ V.vput (zig x.f) ++ V.vput (zig x.t) ++ V.vput x.n
/-- The reader, and a block of the call's own. -/
structure RdZ (w : World) (y z : Nat) (cz : Array Value) (l : List Nat) (wx : World) : Prop where
  rd : RdAt wx y l
  gb : w.grownBy wx (some y)
  er : V.HErr wx
  bz : Blk wx z 76 cz
theorem RdZ.step {w wx w' : World} {y z : Nat} {cz : Array Value} {l l' : List Nat} (h : RdZ w y z cz l wx) (hg : wx.grownBy w' (some y)) (hr : RdAt w' y l') (hne : some 0 ≠ some y) (hz : y < z) : RdZ w y z cz l' w' :=
  ⟨hr, gb_trans h.gb hg, herr_gb h.er hg hne, gb_blk hg h.bz (fun e => by injection e with e; omega)⟩
theorem RdAt.far {w : World} {y g j : Nat} {l : List Nat} (h : RdAt w y l) (hg : y < g) (v : Value) : RdAt (w.setCell ⟨g, j, none⟩ v) y l := by
  obtain ⟨A, c, h1, h2, h3⟩ := h
  refine ⟨A, c, h1.far (p := ⟨g, j, none⟩) (by show y ≠ g; omega) v, h2.keep (fun k hk _ => Below.heap_setCell _ _ _ _ (show k ≠ g by have : k < y := hk; omega)), h3⟩
theorem gb_set {w w' : World} {row : Option Nat} {g : Nat} (h : w.grownBy w' row) (hg : w.heap.size ≤ g) (j : Nat) (v : Value) : w.grownBy (w'.setCell ⟨g, j, none⟩ v) row :=
  have k := grown_set w' g j v
  ⟨k.os.trans h.os, k.tape.trans h.tape, k.output.trans h.output, Nat.le_trans h.size k.size, fun q hq hn => (k.block q (Nat.lt_of_lt_of_le hq h.size) (fun e => by injection e with e; omega)).trans (h.block q hq hn)⟩
theorem herr_set {w : World} {g : Nat} (h : V.HErr w) (hg : 0 ≠ g) (j : Nat) (v : Value) : V.HErr (w.setCell ⟨g, j, none⟩ v) := gb_cell (grown_set w g j v) h (fun e => by injection e with e; exact hg e)
/-- .. and a second one. -/
structure RdX (w : World) (y z x : Nat) (cz cx : Array Value) (l : List Nat) (wx : World) : Prop where
  z : RdZ w y z cz l wx
  bx : Blk wx x 76 cx
theorem RdZ.new {w wx : World} {y z x : Nat} {cz : Array Value} {l : List Nat} (h : RdZ w y z cz l wx) (cx : Array Value) (hx : x = wx.heap.size) : RdX w y z x cz cx l (wx.alloc (.cells cx 76)) := by
  have hal : Below wx.heap.size wx (wx.alloc (.cells cx 76)) := (Below.refl _ _).alloc (Nat.le_refl _) _
  exact ⟨⟨h.rd.call hal, gb_trans h.gb (gb_below hal _), h.er.below hal, h.bz.alloc _⟩, by rw [hx]; exact Blk.fresh _ _ _⟩
theorem RdX.step {w wx w' : World} {y z x : Nat} {cz cx : Array Value} {l l' : List Nat} (h : RdX w y z x cz cx l wx) (hg : wx.grownBy w' (some y)) (hr : RdAt w' y l') (hne : some 0 ≠ some y) (hz : y < z) (hx : y < x) : RdX w y z x cz cx l' w' :=
  ⟨h.z.step hg hr hne hz, gb_blk hg h.bx (fun e => by injection e with e; omega)⟩
theorem RdZ.setz {w wx : World} {y z : Nat} {cz : Array Value} {l : List Nat} (h : RdZ w y z cz l wx) (hz : y < z) (hw : w.heap.size ≤ z) (hg : 0 < w.heap.size) (j : Nat) (v : Value) : RdZ w y z (cz.setIfInBounds j v) l (wx.setCell ⟨z, j, none⟩ v) :=
  ⟨h.rd.far hz v, gb_set h.gb hw j v, herr_set h.er (fun e => by omega) j v, h.bz.set j v⟩
theorem bodyPost_genR {P : Program} {fn : Func} {R : Ending → World → Prop} {a : Act} {w : World} (S : World → Prop) (hS : S w) (h : ∀ w, S w → bodyPost P fn R .ret a w) : bodyPost P fn R .ret a w := h w hS
theorem RdX.setx {w wx : World} {y z x : Nat} {cz cx : Array Value} {l : List Nat} (h : RdX w y z x cz cx l wx) (hz : y < z) (hx : z < x) (hw : w.heap.size ≤ z) (hg : 0 < w.heap.size) (j : Nat) (v : Value) : RdX w y z x cz (cx.setIfInBounds j v) l (wx.setCell ⟨x, j, none⟩ v) :=
  ⟨⟨h.z.rd.far (by omega) v, gb_set h.z.gb (by omega) j v, herr_set h.z.er (fun e => by omega) j v, h.z.bz.far (p := ⟨x, j, none⟩) (by show z ≠ x; omega) v⟩, h.bx.set j v⟩
set_option maxHeartbeats 400000 in
theorem block_ok (w : World) (y : Nat) (x : Bk) (rest : List Nat) (h : RdAt w y (footK x ++ rest)) (hb : 1 ≤ x.b) (hb1 : x.b ≤ 1048576) (hf : -1152921504606846976 ≤ x.f) (hft : x.f ≤ x.t) (ht : x.t ≤ 1152921504606846976) (hn : 1 ≤ x.n) (hn1 : x.n ≤ 4096) (hv : V.HErr w) :
    Calls Tryz.prog 28 #[.pointer (some ⟨y, 0, none⟩), .int .i64 (x.a : Nat)] w (RdPost w y (.agg (bkC x).toArray) rest) := by
  obtain ⟨a, b, f, t, n⟩ := x
  have hb : 1 ≤ b := hb
  have hb1 : b ≤ 1048576 := hb1
  have hf : -1152921504606846976 ≤ f := hf
  have hft : f ≤ t := hft
  have ht : t ≤ 1152921504606846976 := ht
  have hn : 1 ≤ n := hn
  have hn1 : n ≤ 4096 := hn1
  have h : RdAt w y (V.vput b ++ (V.vput (zig f) ++ (V.vput (zig t) ++ (V.vput n ++ rest)))) := by
    have e : footK ⟨a, b, f, t, n⟩ ++ rest = V.vput b ++ (V.vput (zig f) ++ (V.vput (zig t) ++ (V.vput n ++ rest))) := by unfold footK; simp only [List.append_assoc]
    rw [e] at h; exact h
  show Calls _ _ #[_, .int .i64 (a : Nat)] w (RdPost w y (.agg #[.int .i64 (a : Nat), .int .i64 (b : Nat), .int .i64 f, .int .i64 t, .int .i64 (n : Nat)]) rest)
  have hne := rd_ne h hv
  have hylt : y < w.heap.size := by obtain ⟨_, _, hk, -⟩ := h; exact hk.lt
  have H0 := Lib.hid (And.intro h (And.intro hv (And.intro hne hylt)))
  clear h hv hne hylt
  go_enter Tryz.func28, Tryz.ntmps28
  go_upto_region 1 with (fail)
  obtain ⟨z, hz⟩ : ∃ z, z = w.heap.size := ⟨_, rfl⟩
  rw [← hz]
  have hal : Below w.heap.size w (w.alloc (.cells #[.int .i64 0, .int .i64 0, .int .i64 0, .int .i64 0, .int .i64 0] 76)) := (Below.refl _ _).alloc (Nat.le_refl _) _
  have hbz : Blk (w.alloc (.cells #[.int .i64 0, .int .i64 0, .int .i64 0, .int .i64 0, .int .i64 0] 76)) z 76 #[.int .i64 0, .int .i64 0, .int .i64 0, .int .i64 0, .int .i64 0] := by rw [hz]; exact Blk.fresh _ _ _
  have hyz : y < z := by rw [hz]; exact H0.out.2.2.2
  refine wp_gen (RdZ w y z #[.int .i64 0, .int .i64 0, .int .i64 0, .int .i64 0, .int .i64 0] (V.vput b ++ (V.vput (zig f) ++ (V.vput (zig t) ++ (V.vput n ++ rest))))) ⟨H0.out.1.call hal, gb_below hal _, H0.out.2.1.below hal, hbz⟩ ?_
  intro w1 h1
  have HZ := Lib.hid (And.intro hyz (show w.heap.size ≤ z by omega))
  have H1 := Lib.hid h1
  clear h1 hal hbz hyz hz
  go_wp2_with fail
  refine (num_ok w1 y b 1048576 _ H1.out.rd hb hb1 (by omega) H1.out.er).mono ?_
  rintro e w2 ⟨rfl, hg2, h2⟩
  have H2 := Lib.hid (H1.out.step hg2 h2 H0.out.2.2.1 HZ.out.1)
  clear h2 hg2
  go_wp2_with fail
  refine (time_ok w2 y f _ H2.out.rd hf (by omega) H2.out.er).mono ?_
  rintro e w3 ⟨rfl, hg3, h3⟩
  have H3 := Lib.hid (H2.out.step hg3 h3 H0.out.2.2.1 HZ.out.1)
  clear h3 hg3
  go_wp2_with fail
  refine (time_ok w3 y t _ H3.out.rd (by omega) ht H3.out.er).mono ?_
  rintro e w4 ⟨rfl, hg4, h4⟩
  have H4 := Lib.hid (H3.out.step hg4 h4 H0.out.2.2.1 HZ.out.1)
  clear h4 hg4
  obtain ⟨x, hx⟩ : ∃ x, x = w4.heap.size := ⟨_, rfl⟩
  have hzx : z < x := by rw [hx]; exact H4.out.bz.lt
  have hnew := H4.out.new #[.int .i64 (a : Nat), .int .i64 (b : Nat), .int .i64 f, .int .i64 t, .int .i64 0] hx
  go_upto_region 2 with (fail)
  rw [← hx]
  refine wp_gen (RdX w y z x #[.int .i64 0, .int .i64 0, .int .i64 0, .int .i64 0, .int .i64 0] #[.int .i64 (a : Nat), .int .i64 (b : Nat), .int .i64 f, .int .i64 t, .int .i64 0] (V.vput n ++ rest)) hnew ?_
  intro w5 h5
  have HX := Lib.hid hzx
  have H5 := Lib.hid h5
  clear h5 hnew hx hzx
  go_wp2_with fail
  refine (num_ok w5 y n 4096 _ H5.out.z.rd hn hn1 (by omega) H5.out.z.er).mono ?_
  rintro e w6 ⟨rfl, hg6, h6⟩
  have h6' := H5.out.step hg6 h6 H0.out.2.2.1 HZ.out.1 (by have := HZ.out.1; have := HX.out; omega)
  have zf := h6'.bx.frozen
  have zc := h6'.bx.cell 4
  have h7 := h6'.setx HZ.out.1 HX.out HZ.out.2 (H0.out.2.1.lt) 4 (.int .i64 (n : Nat))
  have H7 := Lib.hid h7
  clear h7 h6' h6 hg6
  go_upto_region 3 with (fail)
  clear zf zc
  refine wp_gen (RdX w y z x #[.int .i64 0, .int .i64 0, .int .i64 0, .int .i64 0, .int .i64 0] #[.int .i64 (a : Nat), .int .i64 (b : Nat), .int .i64 f, .int .i64 t, .int .i64 (n : Nat)] rest) H7.out ?_
  intro w8 h8
  have z2 := h8.bx.cell 2
  have z3 := h8.bx.cell 3
  have d1 : decide (t < f) = false := by simp; omega
  have H8 := Lib.hid h8
  clear h8
  go_wp2_with fail
  refine (wrong_no w8 y).mono ?_
  rintro e w9 ⟨rfl, hb9⟩
  clear z2 z3
  have h9 : RdX w y z x #[.int .i64 0, .int .i64 0, .int .i64 0, .int .i64 0, .int .i64 0] #[.int .i64 (a : Nat), .int .i64 (b : Nat), .int .i64 f, .int .i64 t, .int .i64 (n : Nat)] rest w9 :=
    ⟨⟨H8.out.z.rd.call hb9, gb_trans H8.out.z.gb (gb_below hb9 _), H8.out.z.er.below hb9, H8.out.z.bz.below hb9 H8.out.z.bz.lt⟩, H8.out.bx.below hb9 H8.out.bx.lt⟩
  have y0 := h9.bx.cell 0
  have y1 := h9.bx.cell 1
  have y2 := h9.bx.cell 2
  have y3 := h9.bx.cell 3
  have y4 := h9.bx.cell 4
  have v0 := h9.z.bz.cell 0
  have v1 := h9.z.bz.cell 1
  have v2 := h9.z.bz.cell 2
  have v3 := h9.z.bz.cell 3
  have v4 := h9.z.bz.cell 4
  have zf := h9.z.bz.frozen
  have H9 := Lib.hid h9
  clear h9 hb9
  go_wp2_with fail
  have hset := (((((H9.out.z.setz HZ.out.1 HZ.out.2 H0.out.2.1.lt 0 (.int .i64 (a : Nat))).setz HZ.out.1 HZ.out.2 H0.out.2.1.lt 1 (.int .i64 (b : Nat))).setz HZ.out.1 HZ.out.2 H0.out.2.1.lt 2 (.int .i64 f)).setz HZ.out.1 HZ.out.2 H0.out.2.1.lt 3 (.int .i64 t)).setz HZ.out.1 HZ.out.2 H0.out.2.1.lt 4 (.int .i64 (n : Nat)))
  refine bodyPost_genR (RdZ w y z #[.int .i64 (a : Nat), .int .i64 (b : Nat), .int .i64 f, .int .i64 t, .int .i64 (n : Nat)] rest) hset ?_
  intro wz hwz
  have y0 := hwz.bz.cell 0
  have y1 := hwz.bz.cell 1
  have y2 := hwz.bz.cell 2
  have y3 := hwz.bz.cell 3
  have y4 := hwz.bz.cell 4
  exact bodyPost_ret (v := .agg #[.int .i64 (a : Nat), .int .i64 (b : Nat), .int .i64 f, .int .i64 t, .int .i64 (n : Nat)]) (by simp [results, Tryz.results28, go_sem, y0, y1, y2, y3, y4]) rfl ⟨rfl, hwz.gb, hwz.rd⟩
end Go.Proofs.YtopbbicjbjmdnaaGreatDoor
namespace Go.Proofs.YtopbbicjbjmdnaaGreatDoor
open Go.RowKit Go.Maps
set_option maxRecDepth 100000
set_option linter.unusedVariables false
set_option linter.unusedSimpArgs false
theorem oneU8t (w : World) : (sizeOf 5).run Tryz.prog w = .ok 1 w := by kernel_rfl
/-- 'b[m:n]' of bytes. -/
theorem slice_mid {P : Program} (t e : TypeId) (ht : P.underlying t = some (.slice e)) (hs : ∀ w : World, (sizeOf e).run P w = .ok 1 w) (A : Option Addr) (len c m n : Nat) (hmn : m ≤ n) (hn : n ≤ len) (hlc : len ≤ c) :
    ∃ A', (∀ w : World, (Instr.slice t (.slice A len c) (some (.int .i64 (m : Nat))) (some (.int .i64 (n : Nat))) none).run P w = .ok (.slice A' (n - m) (c - m)) w) ∧
      (∀ (w : World) (D : Nat → Prop) (l : List Nat), Sl w D A len (byteC l) → Sl w D A' (n - m) (byteC ((l.drop m).take (n - m)))) := by
  have he : P.elem t = e := by simp [Program.elem, ht]
  have ht' : P.underlying t = some (.slice (P.elem t)) := by rw [he]; exact ht
  refine ⟨if c = m then A else A.map (·.add (m * 1)), fun w => ?_, fun w D l h => ?_⟩
  · rw [run_slice_lh w t A len c ht' .i64 .i64 (m : Nat) (n : Nat) (by omega) (by omega) (by omega), he, hs]
    simp [Result.andThen, sliced]
  · intro hlt
    rw [if_neg (by omega)]
    obtain ⟨b, off, rfl, -, -⟩ := h (by omega)
    have := V.sl_take_list (V.sl_drop_list h (show m ≤ len by omega)) (show n - m ≤ len - m by omega) hlt
    rw [show (some (⟨b, off, none⟩ : Addr)).map (·.add (m * 1)) = some ⟨b, off + m, none⟩ by simp [Addr.add]]
    exact this
/-- A file's foot: the last frame tells how long the one ahead of it is. -/
structure EndIs (l : List Nat) (last q : Nat) : Prop where
  len : l.length = last + 13
  e : F.openE (l.drop last) = 0
  k : F.openK (l.drop last) = 6
  i : F.openI (l.drop last) = four q
  q32 : q < 4294967296
  le : q ≤ last
def FootOk (l : List Nat) (last q : Nat) (w : World) (e : Ending) (w' : World) : Prop :=
  ∃ A c, e = .returned (.tuple #[.slice A (F.openI ((l.drop (last - q)).take q)).length c, .int .i64 ((last - q : Nat)), .bool true]) ∧ w'.ownsRow w.heap.size 5 1 (.slice A (F.openI ((l.drop (last - q)).take q)).length c) (F.openI ((l.drop (last - q)).take q)).length ((F.openI ((l.drop (last - q)).take q)).map V.byteV) ∧ Below w.heap.size w w'
def FootNo (w : World) (e : Ending) (w' : World) : Prop := ∃ A c x, e = .returned (.tuple #[.slice A 0 c, x, .bool false]) ∧ Below w.heap.size w w'
def FootPost (er : Int) (ki : Nat) (I : List Nat) (n : Nat) (w : World) (e : Ending) (w' : World) : Prop :=
  (er = 0 → ki = 5 → ∃ A c, e = .returned (.tuple #[.slice A I.length c, .int .i64 (n : Nat), .bool true]) ∧ w'.ownsRow w.heap.size 5 1 (.slice A I.length c) I.length (I.map V.byteV) ∧ Below w.heap.size w w') ∧ (er ≠ 0 → FootNo w e w')
theorem four_is (q : Nat) : F.fourL q = four q := rfl
set_option maxHeartbeats 400000 in
theorem foot_end (w : World) (A : Option Addr) (len c last : Nat) (D : Nat → Prop) (l : List Nat) (hl : l.length = len) (hsl : Sl w D A len (byteC l)) (hb : ∀ j, l.getD j 0 < 256) (hlen : len = last + 13) (h20 : len ≤ 1048576) (hlc : len ≤ c) (hcm : c ≤ 9223372036854775807) (he : F.openE (l.drop last) ≠ 0) :
    Calls Tryz.prog 22 #[.slice A len c] w (FootNo w) := by
  obtain ⟨A1, hA1, hA2⟩ := V.slice_from (P := Tryz.prog) 25 5 Tryz.underlying25 oneU8t A len c last (by omega) hlc
  have hs1 := hA2 w D l hsl
  rw [show len - last = 13 by omega] at hs1 hA1
  have hP := F.open_any w A1 13 (c - last) D (l.drop last) (by rw [List.length_drop, hl]; omega) hs1 (V.getD_drop_lt hb last) (by omega) (by omega)
  obtain ⟨er, her⟩ : ∃ er, er = F.openE (l.drop last) := ⟨_, rfl⟩
  obtain ⟨ki, hki⟩ : ∃ ki, ki = F.openK (l.drop last) := ⟨_, rfl⟩
  obtain ⟨I, hI⟩ : ∃ I, I = F.openI (l.drop last) := ⟨_, rfl⟩
  rw [← her, ← hki, ← hI] at hP
  have hne : er ≠ 0 := by rw [her]; exact he
  have HP := Lib.hid hP
  clear hl hsl hb he hA2 hs1 hP her hki hI
  have kw : IntKind.i64.wrap ((len : Int) - 13) = (last : Int) := by rw [IntWalk.i64_in _ (by omega)]; omega
  have d0 : decide ((len : Int) < 13) = false := by simp; omega
  have HL := Lib.hid hlen
  clear hlen
  go_enter Tryz.func22, Tryz.ntmps22
  go_wp2_with fail
  refine HP.out.mono ?_
  rintro e w1 ⟨A2, c2, rfl, ho, hk⟩
  have d1 : (er != 0) = true := by simpa using hne
  have d2 : decide (er = 0) = false := by simpa using hne
  have HK := Lib.hid hk.to_below
  clear ho hk
  go_wp2_with fail
  go_ret3
  exact ⟨_, _, _, rfl, HK.out⟩
set_option maxHeartbeats 400000 in
theorem foot_any (w : World) (A : Option Addr) (len c last q : Nat) (D : Nat → Prop) (l : List Nat) (hE : EndIs l last q) (hl : l.length = len) (hsl : Sl w D A len (byteC l)) (hb : ∀ j, l.getD j 0 < 256) (h20 : len ≤ 1048576) (hlc : len ≤ c) (hcm : c ≤ 9223372036854775807) :
    Calls Tryz.prog 22 #[.slice A len c] w fun e w' => (F.openE ((l.drop (last - q)).take q) = 0 → F.openK ((l.drop (last - q)).take q) = 5 → FootOk l last q w e w') ∧ (F.openE ((l.drop (last - q)).take q) ≠ 0 → FootNo w e w') := by
  have hlen : len = last + 13 := by rw [← hl]; exact hE.len
  have hq := hE.le
  have hq32 := hE.q32
  obtain ⟨A1, hA1, hA2⟩ := V.slice_from (P := Tryz.prog) 25 5 Tryz.underlying25 oneU8t A len c last (by omega) hlc
  obtain ⟨A3, hA3, hA4⟩ := slice_mid (P := Tryz.prog) 25 5 Tryz.underlying25 oneU8t A len c (last - q) last (by omega) (by omega) hlc
  have hs1 := hA2 w D l hsl
  have hs3 := hA4 w D l hsl
  rw [show len - last = 13 by omega] at hs1 hA1
  rw [show last - (last - q) = q by omega] at hs3 hA3
  obtain ⟨m, hm⟩ : ∃ m, m = (l.drop (last - q)).take q := ⟨_, rfl⟩
  have hml : m.length = q := by rw [hm, List.length_take, List.length_drop]; omega
  have hmb : ∀ j, m.getD j 0 < 256 := by rw [hm]; exact V.getD_take_lt (V.getD_drop_lt hb _) _
  rw [← hm] at hs3 ⊢
  have hP := F.open_any w A1 13 (c - last) D (l.drop last) (by rw [List.length_drop, hl]; omega) hs1 (V.getD_drop_lt hb last) (by omega) (by omega)
  rw [hE.e, hE.k, hE.i] at hP
  obtain ⟨fq, hfq⟩ : ∃ fq, fq = four q := ⟨_, rfl⟩
  have e4 : fq.length = 4 := by rw [hfq]; rfl
  have hfb : ∀ j, fq.getD j 0 < 256 := by rw [hfq]; exact V.getD_all_lt (four_byte q)
  have ele : F.le (fq.take 8) = q := by rw [hfq]; exact F.le_four q hq32
  rw [← hfq] at hP
  obtain ⟨er, her⟩ : ∃ er, er = F.openE m := ⟨_, rfl⟩
  obtain ⟨ki, hki⟩ : ∃ ki, ki = F.openK m := ⟨_, rfl⟩
  obtain ⟨I, hI⟩ : ∃ I, I = F.openI m := ⟨_, rfl⟩
  have hP3 : ∀ w3, Below w.heap.size w w3 → Calls Tryz.prog 42 #[.slice A3 q (c - (last - q))] w3 (F.WithPost w3 ki I er) := fun w3 hb3 => by
    rw [hki, hI, her]
    exact F.open_any w3 A3 q (c - (last - q)) D m hml (hs3.keep (fun k _ hlt => hb3.block k hlt)) hmb (by omega) (by omega)
  have hP2 : ∀ w1 A2 c2, Sl w1 (fun k => k < w1.heap.size) A2 fq.length (byteC fq) → Calls Tryz.prog 43 #[.slice A2 4 c2] w1 (F.LitPost w1 q) := fun w1 A2 c2 h => by
    rw [e4] at h
    have := F.little_any w1 A2 4 c2 _ fq e4 h hfb (by omega)
    rw [ele] at this
    exact this
  have hI0 : er ≠ 0 → I = [] := fun h => by rw [hI]; exact (F.open_err (by rw [← her]; exact h)).2
  have HP := Lib.hid (And.intro hP (And.intro hP2 (And.intro hP3 (And.intro hI0 e4))))
  have HE := Lib.hid (And.intro her (And.intro hki hI))
  have hQ : (FootPost er ki I (last - q) w) = fun e w' => (F.openE m = 0 → F.openK m = 5 → FootOk l last q w e w') ∧ (F.openE m ≠ 0 → FootNo w e w') := by
    funext e w'
    unfold FootPost FootOk
    rw [her, hki, hI, hm]
  rw [← hQ]
  clear hl hsl hb hE hA2 hA4 hs1 hs3 hml hmb hP hP2 hP3 hI0 e4 hfb ele hfq her hki hI hm hQ
  have kw : IntKind.i64.wrap ((len : Int) - 13) = (last : Int) := by rw [IntWalk.i64_in _ (by omega)]; omega
  have d0 : decide ((len : Int) < 13) = false := by simp; omega
  have HL := Lib.hid hlen
  clear hlen
  go_enter Tryz.func22, Tryz.ntmps22
  go_wp2_with fail
  refine HP.out.1.mono ?_
  rintro e w1 ⟨A2, c2, rfl, ho, hk⟩
  have hs2 := V.ow_sl ho
  have H2 := Lib.hid (And.intro hs2 hk.to_below)
  clear ho hk hs2
  rw [HP.out.2.2.2.2]
  go_wp2_with fail
  refine (HP.out.2.1 w1 A2 c2 H2.out.1).mono ?_
  rintro e w3 ⟨rfl, hk3⟩
  have kq : IntKind.i64.wrap (q : Int) = (q : Int) := IntWalk.i64_in _ (by have := HL.out; omega)
  have kd : IntKind.i64.wrap ((last : Int) - (q : Int)) = ((last - q : Nat) : Int) := by have := HL.out; rw [IntWalk.i64_in _ (by omega)]; omega
  have d3 : decide ((last : Int) < (q : Int)) = false := by simp; omega
  have H3 := Lib.hid (H2.out.2.trans (hk3.to_below.mono H2.out.2.size))
  clear hk3
  go_wp2_with fail
  refine (HP.out.2.2.1 w3 H3.out).mono ?_
  rintro e w4 ⟨A5, c5, rfl, ho5, hk5⟩
  have H5 := Lib.hid (And.intro (own_base ho5 H3.out.size) (H3.out.trans (hk5.to_below.mono H3.out.size)))
  clear ho5 hk5
  by_cases h0 : er = 0
  · subst h0
    by_cases h5 : ki = 5
    · subst h5
      go_wp2_with fail
      go_ret3
      exact ⟨fun _ _ => ⟨A5, c5, rfl, H5.out.1, H5.out.2⟩, fun h => absurd rfl h⟩
    · have d5 : ((ki : Int) == 5) = false := by simp; omega
      have d6 : decide ((ki : Int) = 5) = false := by simp; omega
      go_wp2_with fail
      go_ret3
      exact ⟨fun _ h => absurd h h5, fun h => absurd rfl h⟩
  · have d5 : (er == 0) = false := by simpa using h0
    have d6 : decide (er = 0) = false := by simpa using h0
    obtain rfl := HP.out.2.2.2.1 h0
    go_wp2_with fail
    go_ret3
    exact ⟨fun h => absurd h h0, fun _ => ⟨A5, c5, _, rfl, H5.out.2⟩⟩
end Go.Proofs.YtopbbicjbjmdnaaGreatDoor
