/-
  The contract of aggr.Read. (Printed by genAvC.py and mk.py.)
-/
import Derived.Test.YthhgnngpaagagaaDoorAvA
import Derived.Test.YthhgnngpaagagaaDoorAgM
import Derived.Deep.DeepCutAuto
namespace Go.Proofs.YthhgnngpaagagaaDoor
open Go.RowKit
set_option linter.unusedVariables false
set_option linter.unusedSimpArgs false
theorem results_blk3 {P : Program} {fn : Func} {tmps : Array Value} {w : World} {g : Nat} {t ty : TypeId} {cs : Array Value} {r u u2 : Tmp} (hf : fn.results = #[.cell r ty, .tmp u, .tmp u2]) (hr : tmps.getD r undef = .pointer (some ⟨g, 0, none⟩)) (hb : Blk w g t cs) (n : Nat) (vs : List Value) (d : TypeDesc) (hu : P.underlying ty = some d) (hd : d.isRow = true)
    (hn : vs.length = n) (hi : (P.info? ty).map (·.size) = some n) (hc : ∀ j, j < n → cs[0 + j]? = vs[j]?) : (results fn tmps).run P w = .ok (.tuple #[.agg vs.toArray, tmps.getD u undef, tmps.getD u2 undef]) w := by
  have h := run_loadVar_mid (P := P) w g 0 ty vs d (fun j v hj => by
    rw [hb.cell, hc j (by have := (List.getElem?_eq_some_iff.1 hj).1; omega)]
    exact hj) hu hd (by rw [hn]; exact hi)
  have hr' : tmps[r]?.getD undef = .pointer (some ⟨g, 0, none⟩) := by simpa using hr
  simp [results, hf, hr', h, asAddr, Result.andThen]
def ARdPost (l : List Nat) (w : World) (e : Ending) (w' : World) : Prop :=
  e = .returned (.tuple #[.agg #[.int .i64 (aget l).1.n, .int .i64 (hiOf (aget l).1.s), .int .u64 (loOf (aget l).1.s), .int .i64 (aget l).1.lo, .int .i64 (aget l).1.hi, .int .i64 (aget l).1.f.t, .int .i64 (aget l).1.f.v, .int .i64 (aget l).1.f.s, .int .i64 (aget l).1.l.t, .int .i64 (aget l).1.l.v, .int .i64 (aget l).1.l.s], .int .i64 ((aget l).2.1 : Nat), .int .i64 ((aget l).2.2 : Nat)]) ∧ Below w.heap.size w w'
theorem ard_post {l : List Nat} {a : Ag} {p e : Nat} {w w' : World} {v : Value} (h : aget l = (a, p, e)) (hv : v = .tuple #[.agg #[.int .i64 a.n, .int .i64 (hiOf a.s), .int .u64 (loOf a.s), .int .i64 a.lo, .int .i64 a.hi, .int .i64 a.f.t, .int .i64 a.f.v, .int .i64 a.f.s, .int .i64 a.l.t, .int .i64 a.l.v, .int .i64 a.l.s], .int .i64 (p : Nat), .int .i64 (e : Nat)]) (hb : Below w.heap.size w w') : ARdPost l w (.returned v) w' := by
  subst hv
  unfold ARdPost
  rw [h]
  exact ⟨rfl, hb⟩
theorem aggRd_full (l : List Nat) : AgFull (aggRd l) := by
  have r0 := rdVal_lt l 0
  have r1 := rdVal_lt l 1
  have r2 := rdVal_lt l 2
  have r3 := rdVal_lt l 3
  have r4 := rdVal_lt l 4
  have r5 := rdVal_lt l 5
  have r6 := rdVal_lt l 6
  have r7 := rdVal_lt l 7
  have r8 := rdVal_lt l 8
  have r9 := rdVal_lt l 9
  have r10 := rdVal_lt l 10
  unfold aggRd
  generalize rdVal l 0 = v0 at *
  generalize rdVal l 1 = v1 at *
  generalize rdVal l 2 = v2 at *
  generalize rdVal l 3 = v3 at *
  generalize rdVal l 4 = v4 at *
  generalize rdVal l 5 = v5 at *
  generalize rdVal l 6 = v6 at *
  generalize rdVal l 7 = v7 at *
  generalize rdVal l 8 = v8 at *
  generalize rdVal l 9 = v9 at *
  generalize rdVal l 10 = v10 at *
  have h1 := zag_range r1
  refine ⟨⟨?_, ?_, zag_range r3, zag_range r4⟩, ⟨zag_range r5, zag_range r6, zag_range r7⟩, ⟨zag_range r8, zag_range r9, zag_range r10⟩⟩
  · unfold I64; simp only [IntKind.wrap_i64]; omega
  · unfold S128; simp only []; omega
theorem aggRd_hi (l : List Nat) : hiOf (aggRd l).s = zag (rdVal l 1) ∧ loOf (aggRd l).s = (rdVal l 2 : Nat) := by
  have r2 := rdVal_lt l 2
  unfold aggRd hiOf loOf
  simp only []
  omega
theorem aggRd_cells {l : List Nat} {cn sh sl lo hi ft fv fs lt lv ls : Int} (hc : cn = IntKind.i64.wrap ((rdVal l 0 : Nat) : Int)) (hsh : sh = zag (rdVal l 1)) (hsl : sl = ((rdVal l 2 : Nat) : Int)) (hlo : lo = zag (rdVal l 3)) (hhi : hi = zag (rdVal l 4))
    (hft : ft = zag (rdVal l 5)) (hfv : fv = zag (rdVal l (5 + 1))) (hfs : fs = zag (rdVal l (5 + 1 + 1))) (hlt : lt = zag (rdVal l 8)) (hlv : lv = zag (rdVal l (8 + 1))) (hls : ls = zag (rdVal l (8 + 1 + 1))) :
    (#[.int .i64 cn, .int .i64 sh, .int .u64 sl, .int .i64 lo, .int .i64 hi, .int .i64 ft, .int .i64 fv, .int .i64 fs, .int .i64 lt, .int .i64 lv, .int .i64 ls] : Array Value) = #[.int .i64 (aggRd l).n, .int .i64 (hiOf (aggRd l).s), .int .u64 (loOf (aggRd l).s), .int .i64 (aggRd l).lo, .int .i64 (aggRd l).hi, .int .i64 (aggRd l).f.t, .int .i64 (aggRd l).f.v, .int .i64 (aggRd l).f.s, .int .i64 (aggRd l).l.t, .int .i64 (aggRd l).l.v, .int .i64 (aggRd l).l.s] := by
  have e0 : (aggRd l).n = cn := by rw [hc]; simp only [aggRd]
  have e1 : hiOf (aggRd l).s = sh := (aggRd_hi l).1.trans hsh.symm
  have e2 : loOf (aggRd l).s = sl := (aggRd_hi l).2.trans hsl.symm
  have e3 : (aggRd l).lo = lo := by rw [hlo]; simp only [aggRd]
  have e4 : (aggRd l).hi = hi := by rw [hhi]; simp only [aggRd]
  have e5 : (aggRd l).f.t = ft := by rw [hft]; simp only [aggRd]
  have e6 : (aggRd l).f.v = fv := by rw [hfv]; simp only [aggRd]
  have e7 : (aggRd l).f.s = fs := by rw [hfs]; simp only [aggRd]
  have e8 : (aggRd l).l.t = lt := by rw [hlt]; simp only [aggRd]
  have e9 : (aggRd l).l.v = lv := by rw [hlv]; simp only [aggRd]
  have e10 : (aggRd l).l.s = ls := by rw [hls]; simp only [aggRd]
  rw [e0, e1, e2, e3, e4, e5, e6, e7, e8, e9, e10]
theorem bodyPost_gen3 {P : Program} {f : Func} {post : Ending → World → Prop} {ex : Exit} {a : Act} {w : World} (S : World → Prop) (hS : S w) (h : ∀ w, S w → bodyPost P f post ex a w) : bodyPost P f post ex a w := h w hS
set_option maxRecDepth 100000 in
set_option maxHeartbeats 8000000 in
theorem aggRead_any (w : World) (A : Option Addr) (n c : Nat) (l : List Nat) (hr : RdIn w A n c l) : Calls Tryd.prog 5 #[.slice A n c] w (ARdPost l w) := by
  obtain ⟨y, hy⟩ : ∃ y, y = w.heap.size := ⟨_, rfl⟩
  have o0 := (Own.own2 w hy 28 #[.int .i64 0, .int .i64 0, .int .u64 0, .int .i64 0, .int .i64 0, .int .i64 0, .int .i64 0, .int .i64 0, .int .i64 0, .int .i64 0, .int .i64 0] 50 #[.slice A n c, .int .i64 0, .int .i64 0]).front 1 rfl
  obtain ⟨x, hx⟩ : ∃ x, x = y + 1 := ⟨_, rfl⟩
  rw [← hx] at o0
  have HO := Lib.hid (And.intro hy (And.intro hx (show Own w [(x, 50, #[.slice A n c, .int .i64 ((rdAt l 0).1 : Nat), .int .i64 ((rdAt l 0).2 : Nat)]), (y, 28, #[.int .i64 0, .int .i64 0, .int .u64 0, .int .i64 0, .int .i64 0, .int .i64 0, .int .i64 0, .int .i64 0, .int .i64 0, .int .i64 0, .int .i64 0])] _ from o0)))
  have HR := Lib.hid hr
  clear hy hx o0 hr
  go_enter Tryd.func5, Tryd.ntmps5
  go_upto_region 2 with (fail)
  rw [← HO.out.1, ← HO.out.2.1]
  refine wp_gen (Own w [(x, 50, #[.slice A n c, .int .i64 ((rdAt l 0).1 : Nat), .int .i64 ((rdAt l 0).2 : Nat)]), (y, 28, #[.int .i64 0, .int .i64 0, .int .u64 0, .int .i64 0, .int .i64 0, .int .i64 0, .int .i64 0, .int .i64 0, .int .i64 0, .int .i64 0, .int .i64 0])]) HO.out.2.2 ?_
  intro w0 hS0
  have H0 := Lib.hid hS0
  clear hS0
  go_wp2_with fail
  refine (num_any w _ [(y, 28, #[.int .i64 0, .int .i64 0, .int .u64 0, .int .i64 0, .int .i64 0, .int .i64 0, .int .i64 0, .int .i64 0, .int .i64 0, .int .i64 0, .int .i64 0])] x A n c l 0 HR.out H0.out).mono ?_
  rintro e w1 ⟨rfl, h1⟩
  obtain ⟨cn, hcn⟩ : ∃ z : Int, z = IntKind.i64.wrap ((rdVal l 0 : Nat) : Int) := ⟨_, rfl⟩
  have k0 : IntKind.i64.wrap ((rdVal l 0 : Nat) : Int) = cn := hcn.symm
  have z1_0 := h1.cell 1 0 rfl rfl
  have zf1 := h1.free 1 rfl
  have H1 := Lib.hid (show Own w [(x, 50, #[.slice A n c, .int .i64 ((rdAt l 1).1 : Nat), .int .i64 ((rdAt l 1).2 : Nat)]), (y, 28, #[.int .i64 cn, .int .i64 0, .int .u64 0, .int .i64 0, .int .i64 0, .int .i64 0, .int .i64 0, .int .i64 0, .int .i64 0, .int .i64 0, .int .i64 0])] _ from h1.set 1 0 rfl (.int .i64 cn))
  have HC := Lib.hid hcn
  clear h1 hcn H0
  go_upto_region 3 with (fail)
  refine wp_gen (Own w [(x, 50, #[.slice A n c, .int .i64 ((rdAt l 1).1 : Nat), .int .i64 ((rdAt l 1).2 : Nat)]), (y, 28, #[.int .i64 cn, .int .i64 0, .int .u64 0, .int .i64 0, .int .i64 0, .int .i64 0, .int .i64 0, .int .i64 0, .int .i64 0, .int .i64 0, .int .i64 0])]) H1.out ?_
  clear z1_0 zf1 H1 k0
  intro w2 hS
  have z1_0 := hS.cell 1 0 rfl rfl
  have H2 := Lib.hid hS
  clear hS
  go_upto_if 15 with (fail)
  go_cut [3] (fun s3 wx => ∃ (m : Nat) (ag : Ag), s3 = .int .i64 0 ∧ ((cn = 0 ∧ m = 1 ∧ ag = zeroA) ∨ (cn ≠ 0 ∧ m = 11 ∧ ag = aggRd l)) ∧ Own w [(x, 50, #[.slice A n c, .int .i64 ((rdAt l m).1 : Nat), .int .i64 ((rdAt l m).2 : Nat)]), (y, 28, #[.int .i64 ag.n, .int .i64 (hiOf ag.s), .int .u64 (loOf ag.s), .int .i64 ag.lo, .int .i64 ag.hi, .int .i64 ag.f.t, .int .i64 ag.f.v, .int .i64 ag.f.s, .int .i64 ag.l.t, .int .i64 ag.l.v, .int .i64 ag.l.s])] wx)
  case first =>
    by_cases h0 : cn = 0
    · have d : (cn != 0) = false := by simp [h0]
      have HZ := Lib.hid h0
      clear h0
      go_wp2_with fail
      go_meet
      refine ⟨1, zeroA, rfl, .inl ⟨HZ.out, rfl, rfl⟩, ?_⟩
      have h := H2.out
      rw [HZ.out] at h
      exact h
    · have d : (cn != 0) = true := by simp [h0]
      have HZ := Lib.hid h0
      clear h0
      go_wp2_with fail
      refine (int__any w _ [(y, 28, #[.int .i64 cn, .int .i64 0, .int .u64 0, .int .i64 0, .int .i64 0, .int .i64 0, .int .i64 0, .int .i64 0, .int .i64 0, .int .i64 0, .int .i64 0])] x A n c l 1 HR.out H2.out).mono ?_
      rintro e w3 ⟨rfl, h3⟩
      obtain ⟨sh, hsh⟩ : ∃ z : Int, z = zag (rdVal l 1) := ⟨_, rfl⟩
      rw [← hsh]
      have H3 := Lib.hid h3
      have Hsh := Lib.hid hsh
      clear h3 hsh z1_0 d
      go_wp2_with fail
      refine (num_any w _ [(y, 28, #[.int .i64 cn, .int .i64 0, .int .u64 0, .int .i64 0, .int .i64 0, .int .i64 0, .int .i64 0, .int .i64 0, .int .i64 0, .int .i64 0, .int .i64 0])] x A n c l 2 HR.out H3.out).mono ?_
      rintro e w4 ⟨rfl, h4⟩
      obtain ⟨sl, hsl⟩ : ∃ z : Int, z = ((rdVal l 2 : Nat) : Int) := ⟨_, rfl⟩
      rw [← hsl]
      have z1_1 := h4.cell 1 1 rfl rfl
      have z1_2 := h4.cell 1 2 rfl rfl
      have zf1 := h4.free 1 rfl
      have H4 := Lib.hid (show Own w [(x, 50, #[.slice A n c, .int .i64 ((rdAt l 3).1 : Nat), .int .i64 ((rdAt l 3).2 : Nat)]), (y, 28, #[.int .i64 cn, .int .i64 sh, .int .u64 sl, .int .i64 0, .int .i64 0, .int .i64 0, .int .i64 0, .int .i64 0, .int .i64 0, .int .i64 0, .int .i64 0])] _ from (h4.set 1 1 rfl (.int .i64 sh)).set 1 2 rfl (.int .u64 sl))
      have Hsl := Lib.hid hsl
      clear h4 hsl
      go_upto_region 5 with (fail)
      refine wp_gen (Own w [(x, 50, #[.slice A n c, .int .i64 ((rdAt l 3).1 : Nat), .int .i64 ((rdAt l 3).2 : Nat)]), (y, 28, #[.int .i64 cn, .int .i64 sh, .int .u64 sl, .int .i64 0, .int .i64 0, .int .i64 0, .int .i64 0, .int .i64 0, .int .i64 0, .int .i64 0, .int .i64 0])]) H4.out ?_
      clear z1_1 z1_2 zf1 H4
      intro w5 hS
      have H5 := Lib.hid hS
      clear hS
      go_wp2_with fail
      refine (int__any w _ [(y, 28, #[.int .i64 cn, .int .i64 sh, .int .u64 sl, .int .i64 0, .int .i64 0, .int .i64 0, .int .i64 0, .int .i64 0, .int .i64 0, .int .i64 0, .int .i64 0])] x A n c l 3 HR.out H5.out).mono ?_
      rintro e w6 ⟨rfl, h6⟩
      obtain ⟨lo, hlo⟩ : ∃ z : Int, z = zag (rdVal l 3) := ⟨_, rfl⟩
      rw [← hlo]
      have H6 := Lib.hid h6
      have Hlo := Lib.hid hlo
      clear h6 hlo
      go_wp2_with fail
      refine (int__any w _ [(y, 28, #[.int .i64 cn, .int .i64 sh, .int .u64 sl, .int .i64 0, .int .i64 0, .int .i64 0, .int .i64 0, .int .i64 0, .int .i64 0, .int .i64 0, .int .i64 0])] x A n c l 4 HR.out H6.out).mono ?_
      rintro e w7 ⟨rfl, h7⟩
      obtain ⟨hi, hhi⟩ : ∃ z : Int, z = zag (rdVal l 4) := ⟨_, rfl⟩
      rw [← hhi]
      have z1_3 := h7.cell 1 3 rfl rfl
      have z1_4 := h7.cell 1 4 rfl rfl
      have zf1 := h7.free 1 rfl
      have H7 := Lib.hid (show Own w [(x, 50, #[.slice A n c, .int .i64 ((rdAt l 5).1 : Nat), .int .i64 ((rdAt l 5).2 : Nat)]), (y, 28, #[.int .i64 cn, .int .i64 sh, .int .u64 sl, .int .i64 lo, .int .i64 hi, .int .i64 0, .int .i64 0, .int .i64 0, .int .i64 0, .int .i64 0, .int .i64 0])] _ from (h7.set 1 3 rfl (.int .i64 lo)).set 1 4 rfl (.int .i64 hi))
      have Hhi := Lib.hid hhi
      clear h7 hhi
      go_upto_region 6 with (fail)
      refine wp_gen (Own w [(x, 50, #[.slice A n c, .int .i64 ((rdAt l 5).1 : Nat), .int .i64 ((rdAt l 5).2 : Nat)]), (y, 28, #[.int .i64 cn, .int .i64 sh, .int .u64 sl, .int .i64 lo, .int .i64 hi, .int .i64 0, .int .i64 0, .int .i64 0, .int .i64 0, .int .i64 0, .int .i64 0])]) H7.out ?_
      clear z1_3 z1_4 zf1 H7
      intro w8 hS
      have H8 := Lib.hid hS
      clear hS
      go_wp2_with fail
      refine (point_any w _ [(y, 28, #[.int .i64 cn, .int .i64 sh, .int .u64 sl, .int .i64 lo, .int .i64 hi, .int .i64 0, .int .i64 0, .int .i64 0, .int .i64 0, .int .i64 0, .int .i64 0])] x A n c l 5 HR.out H8.out).mono ?_
      rintro e w9 ⟨rfl, h9⟩
      obtain ⟨ft, hft⟩ : ∃ z : Int, z = zag (rdVal l 5) := ⟨_, rfl⟩
      obtain ⟨fv, hfv⟩ : ∃ z : Int, z = zag (rdVal l (5 + 1)) := ⟨_, rfl⟩
      obtain ⟨fs, hfs⟩ : ∃ z : Int, z = zag (rdVal l (5 + 1 + 1)) := ⟨_, rfl⟩
      rw [← hft, ← hfv, ← hfs]
      have H9 := Lib.hid (show Own w [(x, 50, #[.slice A n c, .int .i64 ((rdAt l 8).1 : Nat), .int .i64 ((rdAt l 8).2 : Nat)]), (y, 28, #[.int .i64 cn, .int .i64 sh, .int .u64 sl, .int .i64 lo, .int .i64 hi, .int .i64 0, .int .i64 0, .int .i64 0, .int .i64 0, .int .i64 0, .int .i64 0])] _ from h9)
      have Hf := Lib.hid (And.intro hft (And.intro hfv hfs))
      clear h9 hft hfv hfs
      go_wp2_with fail
      refine (point_any w _ [(y, 28, #[.int .i64 cn, .int .i64 sh, .int .u64 sl, .int .i64 lo, .int .i64 hi, .int .i64 0, .int .i64 0, .int .i64 0, .int .i64 0, .int .i64 0, .int .i64 0])] x A n c l 8 HR.out H9.out).mono ?_
      rintro e w10 ⟨rfl, h10⟩
      obtain ⟨lt, hlt⟩ : ∃ z : Int, z = zag (rdVal l 8) := ⟨_, rfl⟩
      obtain ⟨lv, hlv⟩ : ∃ z : Int, z = zag (rdVal l (8 + 1)) := ⟨_, rfl⟩
      obtain ⟨ls, hls⟩ : ∃ z : Int, z = zag (rdVal l (8 + 1 + 1)) := ⟨_, rfl⟩
      rw [← hlt, ← hlv, ← hls]
      have h11 : Own w [(x, 50, #[.slice A n c, .int .i64 ((rdAt l 11).1 : Nat), .int .i64 ((rdAt l 11).2 : Nat)]), (y, 28, #[.int .i64 cn, .int .i64 sh, .int .u64 sl, .int .i64 lo, .int .i64 hi, .int .i64 0, .int .i64 0, .int .i64 0, .int .i64 0, .int .i64 0, .int .i64 0])] w10 := h10
      have z1_5 := h11.cell 1 5 rfl rfl
      have z1_6 := h11.cell 1 6 rfl rfl
      have z1_7 := h11.cell 1 7 rfl rfl
      have z1_8 := h11.cell 1 8 rfl rfl
      have z1_9 := h11.cell 1 9 rfl rfl
      have z1_10 := h11.cell 1 10 rfl rfl
      have zf1 := h11.free 1 rfl
      have H11 := Lib.hid (show Own w [(x, 50, #[.slice A n c, .int .i64 ((rdAt l 11).1 : Nat), .int .i64 ((rdAt l 11).2 : Nat)]), (y, 28, #[.int .i64 cn, .int .i64 sh, .int .u64 sl, .int .i64 lo, .int .i64 hi, .int .i64 ft, .int .i64 fv, .int .i64 fs, .int .i64 lt, .int .i64 lv, .int .i64 ls])] _ from (((((h11.set 1 5 rfl (.int .i64 ft)).set 1 6 rfl (.int .i64 fv)).set 1 7 rfl (.int .i64 fs)).set 1 8 rfl (.int .i64 lt)).set 1 9 rfl (.int .i64 lv)).set 1 10 rfl (.int .i64 ls))
      have Hl := Lib.hid (And.intro hlt (And.intro hlv hls))
      clear h10 h11 hlt hlv hls
      go_wp2_with fail
      go_meet
      refine ⟨11, aggRd l, rfl, .inr ⟨HZ.out, rfl, rfl⟩, ?_⟩
      have h := H11.out
      rw [aggRd_cells HC.out Hsh.out Hsl.out Hlo.out Hhi.out Hf.out.1 Hf.out.2.1 Hf.out.2.2 Hl.out.1 Hl.out.2.1 Hl.out.2.2] at h
      exact h
  case rest =>
    obtain ⟨m, ag, rfl, hrel, hS⟩ := hcut
    have hfin : aget l = if (rdAt l m).2 ≠ 0 then (zeroA, 0, (rdAt l m).2) else if validA ag = true then (ag, (rdAt l m).1, 0) else (zeroA, 0, 11) := by
      rcases hrel with ⟨h0, rfl, rfl⟩ | ⟨h0, rfl, rfl⟩
      · rw [aget_zero (by rw [← HC.out]; exact h0)]
        rfl
      · rw [aget_some (by rw [← HC.out]; exact h0)]
    have hok : AgOk ag := by
      rcases hrel with ⟨h0, rfl, rfl⟩ | ⟨h0, rfl, rfl⟩
      · unfold AgOk zeroA I64 S128; simp
      · exact (aggRd_full l).ok
    obtain ⟨p, hp⟩ : ∃ p, p = (rdAt l m).1 := ⟨_, rfl⟩
    obtain ⟨e0, he⟩ : ∃ e, e = (rdAt l m).2 := ⟨_, rfl⟩
    rw [← hp, ← he] at hfin hS
    have HF := Lib.hid (And.intro hfin hok)
    clear hrel hfin hok hp he
    have z0_0 := hS.cell 0 0 rfl rfl
    have z0_1 := hS.cell 0 1 rfl rfl
    have z0_2 := hS.cell 0 2 rfl rfl
    have HS := Lib.hid hS
    clear hS
    by_cases h0 : e0 = 0
    · have d : ((e0 : Int) != 0) = false := by simp [h0]
      have HZ := Lib.hid h0
      clear h0
      have hl0 := @wpList_load_blk Tryd.prog _ _ _ _ (HS.out.get 1 rfl) 28 0 11 [.int .i64 ag.n, .int .i64 (hiOf ag.s), .int .u64 (loOf ag.s), .int .i64 ag.lo, .int .i64 ag.hi, .int .i64 ag.f.t, .int .i64 ag.f.v, .int .i64 ag.f.s, .int .i64 ag.l.t, .int .i64 ag.l.v, .int .i64 ag.l.s] _ Tryd.underlying28 rfl rfl (by kernel_rfl) (fun j _ => by simp)
      go_wp2_with (refine hl0 rfl _ rfl rfl ?_)
      refine (valid_any ag HF.out.2 _).mono ?_
      rintro e w3 ⟨rfl, hb3⟩
      clear z0_0 z0_1 z0_2 hl0 d
      have h3 := HS.out.call hb3
      cases hv : validA ag with
      | true =>
        have HV := Lib.hid hv
        have H3 := Lib.hid h3
        clear hv h3 hb3
        go_upto_region 11 with (fail)
        have hS : (Own w [(x, 50, #[.slice A n c, .int .i64 (p : Nat), .int .i64 (e0 : Nat)]), (y, 28, #[.int .i64 ag.n, .int .i64 (hiOf ag.s), .int .u64 (loOf ag.s), .int .i64 ag.lo, .int .i64 ag.hi, .int .i64 ag.f.t, .int .i64 ag.f.v, .int .i64 ag.f.s, .int .i64 ag.l.t, .int .i64 ag.l.v, .int .i64 ag.l.s])]) (w3.drew) := H3.out.drew
        refine reg_start (Own w [(x, 50, #[.slice A n c, .int .i64 (p : Nat), .int .i64 (e0 : Nat)]), (y, 28, #[.int .i64 ag.n, .int .i64 (hiOf ag.s), .int .u64 (loOf ag.s), .int .i64 ag.lo, .int .i64 ag.hi, .int .i64 ag.f.t, .int .i64 ag.f.v, .int .i64 ag.f.s, .int .i64 ag.l.t, .int .i64 ag.l.v, .int .i64 ag.l.s])]) (by kernel_rfl) hS ?_
        refine reg_take (i := 0) (v := .agg [.int .i64 ag.n, .int .i64 (hiOf ag.s), .int .u64 (loOf ag.s), .int .i64 ag.lo, .int .i64 ag.hi, .int .i64 ag.f.t, .int .i64 ag.f.v, .int .i64 ag.f.s, .int .i64 ag.l.t, .int .i64 ag.l.v, .int .i64 ag.l.s].toArray) rfl (by kernel_rfl) (by kernel_rfl) (by kernel_rfl) (fun _ _ _ h => h) (yieldsIf_load_mid (by kernel_rfl) _ _ rfl y 0 rfl [.int .i64 ag.n, .int .i64 (hiOf ag.s), .int .u64 (loOf ag.s), .int .i64 ag.lo, .int .i64 ag.hi, .int .i64 ag.f.t, .int .i64 ag.f.v, .int .i64 ag.f.s, .int .i64 ag.l.t, .int .i64 ag.l.v, .int .i64 ag.l.s] _ (fun w' h => range_blk (h.get 1 rfl) 0 11 _ rfl (fun j _ => by simp)) Tryd.underlying28 rfl (by kernel_rfl)) hS ?_
        try simp only [List.getElem_toArray, List.getElem_cons_succ, List.getElem_cons_zero, Act.put, List.setIfInBounds_toArray, List.set_cons_zero, List.set_cons_succ]
        refine reg_take (i := 1) (v := ?_) rfl (by kernel_rfl) (by kernel_rfl) (by kernel_rfl) (fun _ _ _ h => h) (Or.inl ⟨by kernel_rfl, ?_⟩) hS ?_
        rotate_left
        · (intro w' hSw; go_simp <;> with_reducible rfl)
        try simp only [List.getElem_toArray, List.getElem_cons_succ, List.getElem_cons_zero, Act.put, List.setIfInBounds_toArray, List.set_cons_zero, List.set_cons_succ]
        refine reg_take (i := 2) (v := ?_) rfl (by kernel_rfl) (by kernel_rfl) (by kernel_rfl) (fun _ _ _ h => h) (Or.inl ⟨by kernel_rfl, ?_⟩) hS ?_
        rotate_left
        · (intro w' hSw; go_simp <;> with_reducible rfl)
        try simp only [List.getElem_toArray, List.getElem_cons_succ, List.getElem_cons_zero, Act.put, List.setIfInBounds_toArray, List.set_cons_zero, List.set_cons_succ]
        refine reg_take (i := 3) (v := ?_) rfl (by kernel_rfl) (by kernel_rfl) (by kernel_rfl) (fun _ _ _ h => h) (Or.inl ⟨by kernel_rfl, ?_⟩) hS ?_
        rotate_left
        · (intro w' hSw; go_simp <;> with_reducible rfl)
        try simp only [List.getElem_toArray, List.getElem_cons_succ, List.getElem_cons_zero, Act.put, List.setIfInBounds_toArray, List.set_cons_zero, List.set_cons_succ]
        refine reg_take (i := 4) (v := ?_) rfl (by kernel_rfl) (by kernel_rfl) (by kernel_rfl) (fun _ _ _ h => h) (Or.inl ⟨by kernel_rfl, ?_⟩) hS ?_
        rotate_left
        · (intro w' hSw; have u0 := hSw.cell 0 1 rfl rfl; go_simp <;> with_reducible rfl)
        try simp only [List.getElem_toArray, List.getElem_cons_succ, List.getElem_cons_zero, Act.put, List.setIfInBounds_toArray, List.set_cons_zero, List.set_cons_succ]
        generalize w3.drew = wd at hS ⊢
        have HD := Lib.hid hS
        refine reg_call (i := 5) rfl (by kernel_rfl) (fun K hK => ?_)
        have HK := Lib.hid hK
        clear hK
        refine step_store_blk (HD.out.get 1 rfl) 28 0 11 [.int .i64 ag.n, .int .i64 (hiOf ag.s), .int .u64 (loOf ag.s), .int .i64 ag.lo, .int .i64 ag.hi, .int .i64 ag.f.t, .int .i64 ag.f.v, .int .i64 ag.f.s, .int .i64 ag.l.t, .int .i64 ag.l.v, .int .i64 ag.l.s] rfl (Nat.le_of_ble_eq_true rfl) (by kernel_rfl) (List.all_eq_true.1 rfl) rfl _ _ rfl rfl rfl ?_
        have HT := Lib.hid ((OwnR.of (n := 11) (HD.out.front 1 rfl) rfl).put [.int .i64 ag.n, .int .i64 (hiOf ag.s), .int .u64 (loOf ag.s), .int .i64 ag.lo, .int .i64 ag.hi, .int .i64 ag.f.t, .int .i64 ag.f.v, .int .i64 ag.f.s, .int .i64 ag.l.t, .int .i64 ag.l.v, .int .i64 ag.l.s] rfl)
        refine HK.out.to (fun w' => Own w [(y, 28, #[.int .i64 ag.n, .int .i64 (hiOf ag.s), .int .u64 (loOf ag.s), .int .i64 ag.lo, .int .i64 ag.hi, .int .i64 ag.f.t, .int .i64 ag.f.v, .int .i64 ag.f.s, .int .i64 ag.l.t, .int .i64 ag.l.v, .int .i64 ag.l.s]), (x, 50, #[.slice A n c, .int .i64 (p : Nat), .int .i64 (e0 : Nat)])] w') (fun _ h => h.front 1 rfl) (HT.out) ?_
        clear HK hS
        have hS : (fun w' => Own w [(y, 28, #[.int .i64 ag.n, .int .i64 (hiOf ag.s), .int .u64 (loOf ag.s), .int .i64 ag.lo, .int .i64 ag.hi, .int .i64 ag.f.t, .int .i64 ag.f.v, .int .i64 ag.f.s, .int .i64 ag.l.t, .int .i64 ag.l.v, .int .i64 ag.l.s]), (x, 50, #[.slice A n c, .int .i64 (p : Nat), .int .i64 (e0 : Nat)])] w') (setFrom wd y 0 [.int .i64 ag.n, .int .i64 (hiOf ag.s), .int .u64 (loOf ag.s), .int .i64 ag.lo, .int .i64 ag.hi, .int .i64 ag.f.t, .int .i64 ag.f.v, .int .i64 ag.f.s, .int .i64 ag.l.t, .int .i64 ag.l.v, .int .i64 ag.l.s]) := HT.out
        try simp only [List.getElem_toArray, List.getElem_cons_succ, List.getElem_cons_zero, Act.put, List.setIfInBounds_toArray, List.set_cons_zero, List.set_cons_succ]
        refine reg_take (i := 6) (v := ?_) rfl (by kernel_rfl) (by kernel_rfl) (by kernel_rfl) (fun _ _ _ h => h) (Or.inl ⟨by kernel_rfl, ?_⟩) hS ?_
        rotate_left
        · (intro w' hSw; go_simp <;> with_reducible rfl)
        try simp only [List.getElem_toArray, List.getElem_cons_succ, List.getElem_cons_zero, Act.put, List.setIfInBounds_toArray, List.set_cons_zero, List.set_cons_succ]
        refine reg_take (i := 7) (v := ?_) rfl (by kernel_rfl) (by kernel_rfl) (by kernel_rfl) (fun _ _ _ h => h) (Or.inl ⟨by kernel_rfl, ?_⟩) hS ?_
        rotate_left
        · (intro w' hSw; go_simp <;> with_reducible rfl)
        try simp only [List.getElem_toArray, List.getElem_cons_succ, List.getElem_cons_zero, Act.put, List.setIfInBounds_toArray, List.set_cons_zero, List.set_cons_succ]
        refine wpAnyH_done (by kernel_rfl) ?_ _
        try simp only [List.getElem_toArray, List.getElem_cons_succ, List.getElem_cons_zero]
        try simp only [List.getElem_toArray, List.getElem_cons_succ, List.getElem_cons_zero, Act.put, List.setIfInBounds_toArray, List.set_cons_zero, List.set_cons_succ]
        clear hS
        go_wp2_with fail
        refine bodyPost_gen3 (Own w [(y, 28, #[.int .i64 ag.n, .int .i64 (hiOf ag.s), .int .u64 (loOf ag.s), .int .i64 ag.lo, .int .i64 ag.hi, .int .i64 ag.f.t, .int .i64 ag.f.v, .int .i64 ag.f.s, .int .i64 ag.l.t, .int .i64 ag.l.v, .int .i64 ag.l.s]), (x, 50, #[.slice A n c, .int .i64 (p : Nat), .int .i64 (e0 : Nat)])]) HT.out ?_
        intro w9 hS9
        exact bodyPost_ret (v := .tuple #[.agg [.int .i64 ag.n, .int .i64 (hiOf ag.s), .int .u64 (loOf ag.s), .int .i64 ag.lo, .int .i64 ag.hi, .int .i64 ag.f.t, .int .i64 ag.f.v, .int .i64 ag.f.s, .int .i64 ag.l.t, .int .i64 ag.l.v, .int .i64 ag.l.s].toArray, .int .i64 (p : Nat), .int .i64 0]) (results_blk3 (P := Tryd.prog) Tryd.results5 rfl (hS9.get 0 rfl) 11 [.int .i64 ag.n, .int .i64 (hiOf ag.s), .int .u64 (loOf ag.s), .int .i64 ag.lo, .int .i64 ag.hi, .int .i64 ag.f.t, .int .i64 ag.f.v, .int .i64 ag.f.s, .int .i64 ag.l.t, .int .i64 ag.l.v, .int .i64 ag.l.s] _ Tryd.underlying28 rfl rfl (by kernel_rfl) (fun j _ => by simp)) rfl (ard_post (by rw [HF.out.1, if_neg (by rw [HZ.out]; simp), if_pos HV.out]) rfl hS9.bel)
      | false =>
        have HV := Lib.hid hv
        have hst := @wpList_store_blk Tryd.prog _ _ _ _ (h3.get 1 rfl) 28 0 11 [.int .i64 0, .int .i64 0, .int .u64 0, .int .i64 0, .int .i64 0, .int .i64 0, .int .i64 0, .int .i64 0, .int .i64 0, .int .i64 0, .int .i64 0] rfl (Nat.le_of_ble_eq_true rfl) (by kernel_rfl) (List.all_eq_true.1 rfl)
        have HT := Lib.hid ((OwnR.of (n := 11) (h3.front 1 rfl) rfl).put [.int .i64 0, .int .i64 0, .int .u64 0, .int .i64 0, .int .i64 0, .int .i64 0, .int .i64 0, .int .i64 0, .int .i64 0, .int .i64 0, .int .i64 0] rfl)
        clear hv h3 hb3
        go_wp2_with (refine hst rfl _ _ rfl rfl rfl ?_)
        refine bodyPost_gen3 (Own w [(y, 28, #[.int .i64 0, .int .i64 0, .int .u64 0, .int .i64 0, .int .i64 0, .int .i64 0, .int .i64 0, .int .i64 0, .int .i64 0, .int .i64 0, .int .i64 0]), (x, 50, #[.slice A n c, .int .i64 (p : Nat), .int .i64 (e0 : Nat)])]) HT.out ?_
        intro w9 hS9
        exact bodyPost_ret (v := .tuple #[.agg [.int .i64 0, .int .i64 0, .int .u64 0, .int .i64 0, .int .i64 0, .int .i64 0, .int .i64 0, .int .i64 0, .int .i64 0, .int .i64 0, .int .i64 0].toArray, .int .i64 0, .int .i64 11]) (results_blk3 (P := Tryd.prog) Tryd.results5 rfl (hS9.get 0 rfl) 11 [.int .i64 0, .int .i64 0, .int .u64 0, .int .i64 0, .int .i64 0, .int .i64 0, .int .i64 0, .int .i64 0, .int .i64 0, .int .i64 0, .int .i64 0] _ Tryd.underlying28 rfl rfl (by kernel_rfl) (fun j _ => by simp)) rfl (ard_post (a := zeroA) (p := 0) (e := 11) (by rw [HF.out.1, if_neg (by rw [HZ.out]; simp), if_neg (by rw [HV.out]; simp)]) rfl hS9.bel)
    · have d : ((e0 : Int) != 0) = true := by simp [h0]
      have HZ := Lib.hid h0
      clear h0
      go_upto_region 8 with (fail)
      clear z0_0 z0_1 z0_2
      have hS : (Own w [(x, 50, #[.slice A n c, .int .i64 (p : Nat), .int .i64 (e0 : Nat)])]) (wc.drew) := (HS.out.take 1).drew
      refine reg_start (Own w [(x, 50, #[.slice A n c, .int .i64 (p : Nat), .int .i64 (e0 : Nat)])]) (by kernel_rfl) hS ?_
      refine reg_take (i := 0) (v := ?_) rfl (by kernel_rfl) (by kernel_rfl) (by kernel_rfl) (fun _ _ _ h => h) (Or.inl ⟨by kernel_rfl, ?_⟩) hS ?_
      rotate_left
      · (intro w' hSw; go_simp <;> with_reducible rfl)
      try simp only [List.getElem_toArray, List.getElem_cons_succ, List.getElem_cons_zero, Act.put, List.setIfInBounds_toArray, List.set_cons_zero, List.set_cons_succ]
      refine reg_take (i := 1) (v := ?_) rfl (by kernel_rfl) (by kernel_rfl) (by kernel_rfl) (fun _ _ _ h => h) (Or.inl ⟨by kernel_rfl, ?_⟩) hS ?_
      rotate_left
      · (intro w' hSw; go_simp <;> with_reducible rfl)
      try simp only [List.getElem_toArray, List.getElem_cons_succ, List.getElem_cons_zero, Act.put, List.setIfInBounds_toArray, List.set_cons_zero, List.set_cons_succ]
      refine reg_take (i := 2) (v := ?_) rfl (by kernel_rfl) (by kernel_rfl) (by kernel_rfl) (fun _ _ _ h => h) (Or.inl ⟨by kernel_rfl, ?_⟩) hS ?_
      rotate_left
      · (intro w' hSw; go_simp <;> with_reducible rfl)
      try simp only [List.getElem_toArray, List.getElem_cons_succ, List.getElem_cons_zero, Act.put, List.setIfInBounds_toArray, List.set_cons_zero, List.set_cons_succ]
      refine reg_take (i := 3) (v := ?_) rfl (by kernel_rfl) (by kernel_rfl) (by kernel_rfl) (fun _ _ _ h => h) (Or.inl ⟨by kernel_rfl, ?_⟩) hS ?_
      rotate_left
      · (intro w' hSw; go_simp <;> with_reducible rfl)
      try simp only [List.getElem_toArray, List.getElem_cons_succ, List.getElem_cons_zero, Act.put, List.setIfInBounds_toArray, List.set_cons_zero, List.set_cons_succ]
      refine reg_take (i := 4) (v := ?_) rfl (by kernel_rfl) (by kernel_rfl) (by kernel_rfl) (fun _ _ _ h => h) (Or.inl ⟨by kernel_rfl, ?_⟩) hS ?_
      rotate_left
      · (intro w' hSw; have u0 := hSw.cell 0 2 rfl rfl; go_simp <;> with_reducible rfl)
      try simp only [List.getElem_toArray, List.getElem_cons_succ, List.getElem_cons_zero, Act.put, List.setIfInBounds_toArray, List.set_cons_zero, List.set_cons_succ]
      have HD := Lib.hid HS.out.drew
      generalize wc.drew = wd at hS HD ⊢
      refine reg_call (i := 5) rfl (by kernel_rfl) (fun K hK => ?_)
      have HK := Lib.hid hK
      clear hK
      refine step_store_blk (HD.out.get 1 rfl) 28 0 11 [.int .i64 0, .int .i64 0, .int .u64 0, .int .i64 0, .int .i64 0, .int .i64 0, .int .i64 0, .int .i64 0, .int .i64 0, .int .i64 0, .int .i64 0] rfl (Nat.le_of_ble_eq_true rfl) (by kernel_rfl) (List.all_eq_true.1 rfl) rfl _ _ rfl rfl rfl ?_
      have HT := Lib.hid ((OwnR.of (n := 11) (HD.out.front 1 rfl) rfl).put [.int .i64 0, .int .i64 0, .int .u64 0, .int .i64 0, .int .i64 0, .int .i64 0, .int .i64 0, .int .i64 0, .int .i64 0, .int .i64 0, .int .i64 0] rfl)
      refine HK.out.to (fun w' => Own w [(y, 28, #[.int .i64 0, .int .i64 0, .int .u64 0, .int .i64 0, .int .i64 0, .int .i64 0, .int .i64 0, .int .i64 0, .int .i64 0, .int .i64 0, .int .i64 0]), (x, 50, #[.slice A n c, .int .i64 (p : Nat), .int .i64 (e0 : Nat)])] w') (fun _ h => h.sub (List.sublist_cons_self _ _)) (HT.out) ?_
      clear HK hS
      have hS : (fun w' => Own w [(y, 28, #[.int .i64 0, .int .i64 0, .int .u64 0, .int .i64 0, .int .i64 0, .int .i64 0, .int .i64 0, .int .i64 0, .int .i64 0, .int .i64 0, .int .i64 0]), (x, 50, #[.slice A n c, .int .i64 (p : Nat), .int .i64 (e0 : Nat)])] w') (setFrom wd y 0 [.int .i64 0, .int .i64 0, .int .u64 0, .int .i64 0, .int .i64 0, .int .i64 0, .int .i64 0, .int .i64 0, .int .i64 0, .int .i64 0, .int .i64 0]) := HT.out
      try simp only [List.getElem_toArray, List.getElem_cons_succ, List.getElem_cons_zero, Act.put, List.setIfInBounds_toArray, List.set_cons_zero, List.set_cons_succ]
      refine reg_take (i := 6) (v := ?_) rfl (by kernel_rfl) (by kernel_rfl) (by kernel_rfl) (fun _ _ _ h => h) (Or.inl ⟨by kernel_rfl, ?_⟩) hS ?_
      rotate_left
      · (intro w' hSw; go_simp <;> with_reducible rfl)
      try simp only [List.getElem_toArray, List.getElem_cons_succ, List.getElem_cons_zero, Act.put, List.setIfInBounds_toArray, List.set_cons_zero, List.set_cons_succ]
      refine reg_take (i := 7) (v := ?_) rfl (by kernel_rfl) (by kernel_rfl) (by kernel_rfl) (fun _ _ _ h => h) (Or.inl ⟨by kernel_rfl, ?_⟩) hS ?_
      rotate_left
      · (intro w' hSw; go_simp <;> with_reducible rfl)
      try simp only [List.getElem_toArray, List.getElem_cons_succ, List.getElem_cons_zero, Act.put, List.setIfInBounds_toArray, List.set_cons_zero, List.set_cons_succ]
      refine wpAnyH_done (by kernel_rfl) ?_ _
      try simp only [List.getElem_toArray, List.getElem_cons_succ, List.getElem_cons_zero]
      try simp only [List.getElem_toArray, List.getElem_cons_succ, List.getElem_cons_zero, Act.put, List.setIfInBounds_toArray, List.set_cons_zero, List.set_cons_succ]
      clear hS
      go_wp2_with fail
      refine bodyPost_gen3 (Own w [(y, 28, #[.int .i64 0, .int .i64 0, .int .u64 0, .int .i64 0, .int .i64 0, .int .i64 0, .int .i64 0, .int .i64 0, .int .i64 0, .int .i64 0, .int .i64 0]), (x, 50, #[.slice A n c, .int .i64 (p : Nat), .int .i64 (e0 : Nat)])]) HT.out ?_
      intro w9 hS9
      exact bodyPost_ret (v := .tuple #[.agg [.int .i64 0, .int .i64 0, .int .u64 0, .int .i64 0, .int .i64 0, .int .i64 0, .int .i64 0, .int .i64 0, .int .i64 0, .int .i64 0, .int .i64 0].toArray, .int .i64 0, .int .i64 (e0 : Nat)]) (results_blk3 (P := Tryd.prog) Tryd.results5 rfl (hS9.get 0 rfl) 11 [.int .i64 0, .int .i64 0, .int .u64 0, .int .i64 0, .int .i64 0, .int .i64 0, .int .i64 0, .int .i64 0, .int .i64 0, .int .i64 0, .int .i64 0] _ Tryd.underlying28 rfl rfl (by kernel_rfl) (fun j _ => by simp)) rfl (ard_post (a := zeroA) (p := 0) (by rw [HF.out.1, if_pos HZ.out]) rfl hS9.bel)
end Go.Proofs.YthhgnngpaagagaaDoor
