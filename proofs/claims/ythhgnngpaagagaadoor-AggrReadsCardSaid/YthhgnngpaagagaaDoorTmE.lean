/-
  The contract of tidemillref08.Read. (Printed by genTmE.py and mk.py.)
-/
import Derived.Test.YthhgnngpaagagaaDoorTmD
import Derived.Test.YthhgnngpaagagaaDoorAvC
import Derived.Test.YthhgnngpaagagaaDoorRvA
import Derived.Test.YthhgnngpaagagaaDoorLmA
import Derived.Deep.DeepCutAuto
namespace Go.Proofs.YthhgnngpaagagaaDoor
open Go.RowKit
set_option linter.unusedVariables false
set_option linter.unusedSimpArgs false
/-- One number is read behind k others. -/
structure RdStep (w0 : World) (A : Option Addr) (n c : Nat) (l : List Nat) (k : Nat) (A1 : Option Addr) (p d q v e : Nat) : Prop where
  slice : ∀ w : World, (Instr.slice 29 (.slice A n c) (some (.int .i64 (p : Nat))) none none).run Tryd.prog w = .ok (.slice A1 (n - p) (c - p)) w
  num : ∀ w, Below w0.heap.size w0 w → Calls Tryd.prog 16 #[.slice A1 (n - p) (c - p)] w fun e' w' => e' = .returned (.tuple #[.int .u64 (v : Nat), .int .i64 (d : Nat), .int .i64 (e : Nat)]) ∧ Below w.heap.size w w'
  int : ∀ w, Below w0.heap.size w0 w → Calls Tryd.prog 17 #[.slice A1 (n - p) (c - p)] w fun e' w' => e' = .returned (.tuple #[.int .i64 (zag v), .int .i64 (d : Nat), .int .i64 (e : Nat)]) ∧ Below w.heap.size w w'
  add : (p : Int) + (d : Int) = (q : Int)
  qn : q ≤ n
  v_is : v = rdVal l k
  q_is : q = (rdAt l (k + 1)).1
  e_is : (rdAt l k).2 = 0 → (rdAt l (k + 1)).2 = e
  e_le : e ≤ 11
theorem rd_step {w0 : World} {A : Option Addr} {n c : Nat} {l : List Nat} (hr : RdIn w0 A n c l) (k p : Nat) (hp : p = (rdAt l k).1) : ∃ A1 d q v e, RdStep w0 A n c l k A1 p d q v e := by
  have hat := rdAt_le l k
  have hat2 := rdAt_le l (k + 1)
  rw [hr.len] at hat hat2
  rw [← hp] at hat
  obtain ⟨A1, hA1, hA2⟩ := slice_from (P := Tryd.prog) 29 5 Tryd.underlying29 oneU8a A n c p hat hr.cap
  have hm : (l.drop p).length = n - p := by rw [List.length_drop, hr.len]
  have hc := hr.cap
  have hb := hr.big
  refine ⟨A1, (vget (l.drop p)).2.1, (rdAt l (k + 1)).1, (vget (l.drop p)).1, (vget (l.drop p)).2.2, ⟨hA1, ?_, ?_, ?_, hat2, ?_, rfl, ?_, ?_⟩⟩
  · intro w hw
    refine (rvread_any w _ A1 (n - p) (c - p) (l.drop p) hm (getD_drop_lt hr.byte p) (hA2 w _ l (sl_later hr.sl hw)) (by omega)).mono ?_
    rintro e w' ⟨rfl, hb⟩
    exact ⟨rfl, hb⟩
  · intro w hw
    refine (rvreadInt_any w _ A1 (n - p) (c - p) (l.drop p) hm (getD_drop_lt hr.byte p) (hA2 w _ l (sl_later hr.sl hw)) (by omega)).mono ?_
    rintro e w' ⟨rfl, hb⟩
    exact ⟨rfl, hb⟩
  · rw [rdAt_succ, ← hp]; simp
  · unfold rdVal; rw [← hp]
  · intro h
    rw [rdAt_succ, ← hp]
    simp only []
    rw [if_pos h]
  · rcases vget_e (l.drop p) with h | ⟨h | h, -⟩ <;> omega
theorem rd_first {w0 : World} {A : Option Addr} {n c : Nat} {l : List Nat} (hr : RdIn w0 A n c l) : ∃ q v e, (∀ w, Below w0.heap.size w0 w → Calls Tryd.prog 16 #[.slice A n c] w fun e' w' => e' = .returned (.tuple #[.int .u64 (v : Nat), .int .i64 (q : Nat), .int .i64 (e : Nat)]) ∧ Below w.heap.size w w') ∧
    q ≤ n ∧ v = rdVal l 0 ∧ q = (rdAt l 1).1 ∧ (rdAt l 1).2 = e ∧ e ≤ 11 := by
  have hat := rdAt_le l 1
  rw [hr.len] at hat
  have hc := hr.cap
  have hb := hr.big
  refine ⟨(rdAt l 1).1, (vget l).1, (vget l).2.2, ?_, hat, rfl, rfl, ?_, ?_⟩
  · intro w hw
    refine (rvread_any w _ A n c l hr.len hr.byte (sl_later hr.sl hw) (by omega)).mono ?_
    rintro e w' ⟨rfl, hb⟩
    have e1 : (rdAt l 1).1 = (vget l).2.1 := by
      rw [rdAt_succ]
      show 0 + (vget (l.drop 0)).2.1 = _
      rw [List.drop_zero, Nat.zero_add]
    rw [e1]
    exact ⟨rfl, hb⟩
  · rw [rdAt_succ]
    show (if 0 = 0 then (vget (l.drop 0)).2.2 else 0) = _
    rw [List.drop_zero, if_pos rfl]
  · rcases vget_e l with h | ⟨h | h, -⟩ <;> omega
theorem rdAt_stay {l : List Nat} {k e : Nat} (h : (rdAt l k).2 = e) (he : e ≠ 0) : ∀ m, (rdAt l (k + m)).2 = e
  | 0 => h
  | m + 1 => by
    have ih := rdAt_stay h he m
    rw [show k + (m + 1) = (k + m) + 1 by omega, rdAt_succ]
    simp only []
    rw [if_neg (by rw [ih]; exact he), ih]
theorem aget_err {l : List Nat} {k e : Nat} (h : (rdAt l k).2 = e) (he : e ≠ 0) (hk : k ≤ 11) (h1 : k = 1 ∨ IntKind.i64.wrap ((rdVal l 0 : Nat) : Int) ≠ 0) : aget l = (zeroA, 0, e) := by
  have h11 := rdAt_stay h he (11 - k)
  rw [show k + (11 - k) = 11 by omega] at h11
  by_cases hz : IntKind.i64.wrap ((rdVal l 0 : Nat) : Int) = 0
  · rcases h1 with rfl | h1
    · rw [aget_zero hz, if_pos (by rw [h]; exact he), h]
    · exact absurd hz h1
  · rw [aget_some hz, if_pos (by rw [h11]; exact he), h11]
def RRdPost (l : List Nat) (w : World) (e : Ending) (w' : World) : Prop :=
  e = .returned (.tuple #[.agg #[.int .i64 (aget l).1.n, .int .i64 (lim ((aget l).1.s) 0), .int .i64 (lim ((aget l).1.s) 1), .int .i64 (lim ((aget l).1.s) 2), .int .i64 (lim ((aget l).1.s) 3), .int .i64 (lim ((aget l).1.s) 4), .int .i64 (lim ((aget l).1.s) 5), .int .i64 (lim ((aget l).1.s) 6), .int .i64 (lim ((aget l).1.s) 7), .int .i64 (aget l).1.lo, .int .i64 (aget l).1.hi, .int .i64 (aget l).1.f.t, .int .i64 (aget l).1.f.v, .int .i64 (aget l).1.f.s, .int .i64 (aget l).1.l.t, .int .i64 (aget l).1.l.v, .int .i64 (aget l).1.l.s], .int .i64 ((aget l).2.1 : Nat), .int .i64 ((aget l).2.2 : Nat)]) ∧ Below w.heap.size w w'
theorem rz' : (.agg #[.int .i64 zeroA.n, .int .i64 (lim (zeroA.s) 0), .int .i64 (lim (zeroA.s) 1), .int .i64 (lim (zeroA.s) 2), .int .i64 (lim (zeroA.s) 3), .int .i64 (lim (zeroA.s) 4), .int .i64 (lim (zeroA.s) 5), .int .i64 (lim (zeroA.s) 6), .int .i64 (lim (zeroA.s) 7), .int .i64 zeroA.lo, .int .i64 zeroA.hi, .int .i64 zeroA.f.t, .int .i64 zeroA.f.v, .int .i64 zeroA.f.s, .int .i64 zeroA.l.t, .int .i64 zeroA.l.v, .int .i64 zeroA.l.s] : Value) = .agg #[.int .i64 0, .int .i64 0, .int .i64 0, .int .i64 0, .int .i64 0, .int .i64 0, .int .i64 0, .int .i64 0, .int .i64 0, .int .i64 0, .int .i64 0, .int .i64 0, .int .i64 0, .int .i64 0, .int .i64 0, .int .i64 0, .int .i64 0] := by
  have e : ∀ i, lim zeroA.s i = 0 := lim_zero
  (simp only [e]) <;> rfl
theorem rrd_post {l : List Nat} {a : Ag} {p e : Nat} {w w' : World} {v : Value} (h : aget l = (a, p, e)) (hv : (.agg #[.int .i64 a.n, .int .i64 (lim (a.s) 0), .int .i64 (lim (a.s) 1), .int .i64 (lim (a.s) 2), .int .i64 (lim (a.s) 3), .int .i64 (lim (a.s) 4), .int .i64 (lim (a.s) 5), .int .i64 (lim (a.s) 6), .int .i64 (lim (a.s) 7), .int .i64 a.lo, .int .i64 a.hi, .int .i64 a.f.t, .int .i64 a.f.v, .int .i64 a.f.s, .int .i64 a.l.t, .int .i64 a.l.v, .int .i64 a.l.s] : Value) = v) (hb : Below w.heap.size w w') : RRdPost l w (.returned (.tuple #[v, .int .i64 (p : Nat), .int .i64 (e : Nat)])) w' := by
  subst hv
  unfold RRdPost
  rw [h]
  exact ⟨rfl, hb⟩
theorem limbs_is (s : Int) (hs : S128 s) (h l : Int) (hh : hiOf s = h) (hl : loOf s = l) (f : Nat → Int) (hf : lim s = f) (w : World) : Calls Tryd.prog 18 #[.int .i64 h, .int .u64 l] w fun e w' => e = .returned (.agg #[.int .i64 (f 0), .int .i64 (f 1), .int .i64 (f 2), .int .i64 (f 3), .int .i64 (f 4), .int .i64 (f 5), .int .i64 (f 6), .int .i64 (f 7)]) ∧ Below w.heap.size w w' := by
  subst hh hl hf
  exact limbs_any s hs w
/-- The limbs' place for the eight numbers. -/
def eightF (l : List Nat) (k j : Nat) : Int := if j < k then zag (rdVal l (3 + j)) else 0
theorem eight_step (l : List Nat) (k : Nat) (hk : k < 8) : ∀ j, j < 8 → updF (eightF l k) k (zag (rdVal l (3 + k))) j = eightF l (k + 1) j := fun j hj => by
  unfold updF eightF
  by_cases h1 : j = k
  · subst h1; rw [if_pos rfl, if_pos (by omega)]
  · rw [if_neg h1]
    by_cases h2 : j < k
    · rw [if_pos h2, if_pos (by omega)]
    · rw [if_neg h2, if_neg (by omega)]
theorem aggRd_n (l : List Nat) : (aggRd l).n = IntKind.i64.wrap ((rdVal l 0 : Nat) : Int) := by simp only [aggRd]
theorem agFull_n {b : Ag} (h : AgFull b) (nn : Int) (hn : I64 nn) : AgFull { b with n := nn } := ⟨⟨hn, h.ok.2.1, h.ok.2.2.1, h.ok.2.2.2⟩, h.f, h.l⟩
theorem eight_ag (l : List Nat) (nn : Int) : (⟨nn, (aggRd l).s, eightF l 8 0, eightF l 8 1, ⟨eightF l 8 2, eightF l 8 3, eightF l 8 4⟩, ⟨eightF l 8 5, eightF l 8 6, eightF l 8 7⟩⟩ : Ag) = { aggRd l with n := nn } := by
  have e0 : eightF l 8 0 = (aggRd l).lo := by unfold eightF; rw [if_pos (by omega)]; simp only [aggRd]
  have e1 : eightF l 8 1 = (aggRd l).hi := by unfold eightF; rw [if_pos (by omega)]; simp only [aggRd]
  have e2 : eightF l 8 2 = (aggRd l).f.t := by unfold eightF; rw [if_pos (by omega)]; simp only [aggRd]
  have e3 : eightF l 8 3 = (aggRd l).f.v := by unfold eightF; rw [if_pos (by omega)]; simp only [aggRd]
  have e4 : eightF l 8 4 = (aggRd l).f.s := by unfold eightF; rw [if_pos (by omega)]; simp only [aggRd]
  have e5 : eightF l 8 5 = (aggRd l).l.t := by unfold eightF; rw [if_pos (by omega)]; simp only [aggRd]
  have e6 : eightF l 8 6 = (aggRd l).l.v := by unfold eightF; rw [if_pos (by omega)]; simp only [aggRd]
  have e7 : eightF l 8 7 = (aggRd l).l.s := by unfold eightF; rw [if_pos (by omega)]; simp only [aggRd]
  rw [e0, e1, e2, e3, e4, e5, e6, e7]
set_option maxRecDepth 100000 in
set_option maxHeartbeats 4000000 in
theorem rread_any (w : World) (A : Option Addr) (n c : Nat) (l : List Nat) (hr : RdIn w A n c l) : Calls Tryd.prog 6 #[.slice A n c] w (RRdPost l w) := by
  obtain ⟨x, hx⟩ : ∃ x, x = w.heap.size := ⟨_, rfl⟩
  have o0 := Own.own1 w hx 35 #[.int .i64 0, .int .i64 0, .int .i64 0, .int .i64 0, .int .i64 0, .int .i64 0, .int .i64 0, .int .i64 0, .int .i64 0, .int .i64 0, .int .i64 0, .int .i64 0, .int .i64 0, .int .i64 0, .int .i64 0, .int .i64 0, .int .i64 0]
  obtain ⟨p1, v0, e0, hf, hp1n, hv0, hp1, he0, he011⟩ := rd_first hr
  have hv064 : v0 < 18446744073709551616 := by rw [hv0]; exact rdVal_lt l 0
  have hbig : n ≤ 1125899906842624 := hr.small
  have hnc : n ≤ c := hr.cap
  have HF := Lib.hid (And.intro hf (And.intro hv0 (And.intro hp1 he0)))
  have HR := Lib.hid hr
  have HO := Lib.hid (And.intro hx o0)
  clear hf hv0 hp1 he0 hr hx o0
  go_enter Tryd.func6, Tryd.ntmps6
  go_upto_region 1 with (fail)
  rw [← HO.out.1]
  refine wp_gen (Own w [(x, 35, #[.int .i64 0, .int .i64 0, .int .i64 0, .int .i64 0, .int .i64 0, .int .i64 0, .int .i64 0, .int .i64 0, .int .i64 0, .int .i64 0, .int .i64 0, .int .i64 0, .int .i64 0, .int .i64 0, .int .i64 0, .int .i64 0, .int .i64 0])]) HO.out.2 ?_
  intro w1 hS
  have HS := Lib.hid hS
  clear hS
  go_wp2_with fail
  refine (HF.out.1 _ HS.out.bel).mono ?_
  rintro e w2 ⟨rfl, hb⟩
  have HT0 := Lib.hid (HS.out.call hb)
  clear hb HS
  by_cases c0 : e0 = 0
  rotate_left
  · have d0 : ((e0 : Int) != 0) = true := by simp [c0]
    have HE := Lib.hid (aget_err HF.out.2.2.2 c0 (by omega) (.inl rfl))
    clear c0
    have hst := @wpList_store_blk Tryd.prog _ _ _ _ ((HT0.out).get 0 rfl) 35 0 17 [.int .i64 0, .int .i64 0, .int .i64 0, .int .i64 0, .int .i64 0, .int .i64 0, .int .i64 0, .int .i64 0, .int .i64 0, .int .i64 0, .int .i64 0, .int .i64 0, .int .i64 0, .int .i64 0, .int .i64 0, .int .i64 0, .int .i64 0] rfl (Nat.le_of_ble_eq_true rfl) (by kernel_rfl) (List.all_eq_true.1 rfl)
    have HT := Lib.hid ((OwnR.of (n := 17) (HT0.out) rfl).put [.int .i64 0, .int .i64 0, .int .i64 0, .int .i64 0, .int .i64 0, .int .i64 0, .int .i64 0, .int .i64 0, .int .i64 0, .int .i64 0, .int .i64 0, .int .i64 0, .int .i64 0, .int .i64 0, .int .i64 0, .int .i64 0, .int .i64 0] rfl)
    go_wp2_with (refine hst rfl _ _ rfl rfl rfl ?_)
    refine bodyPost_gen3 (Own w [(x, 35, #[.int .i64 0, .int .i64 0, .int .i64 0, .int .i64 0, .int .i64 0, .int .i64 0, .int .i64 0, .int .i64 0, .int .i64 0, .int .i64 0, .int .i64 0, .int .i64 0, .int .i64 0, .int .i64 0, .int .i64 0, .int .i64 0, .int .i64 0])]) HT.out ?_
    intro w9 hS9
    exact bodyPost_ret (v := .tuple #[.agg [.int .i64 0, .int .i64 0, .int .i64 0, .int .i64 0, .int .i64 0, .int .i64 0, .int .i64 0, .int .i64 0, .int .i64 0, .int .i64 0, .int .i64 0, .int .i64 0, .int .i64 0, .int .i64 0, .int .i64 0, .int .i64 0, .int .i64 0].toArray, .int .i64 0, .int .i64 (e0 : Nat)]) (results_blk3 (P := Tryd.prog) Tryd.results6 rfl (hS9.get 0 rfl) 17 [.int .i64 0, .int .i64 0, .int .i64 0, .int .i64 0, .int .i64 0, .int .i64 0, .int .i64 0, .int .i64 0, .int .i64 0, .int .i64 0, .int .i64 0, .int .i64 0, .int .i64 0, .int .i64 0, .int .i64 0, .int .i64 0, .int .i64 0] _ Tryd.underlying35 rfl rfl (by kernel_rfl) (fun j _ => by simp)) rfl (rrd_post (a := zeroA) HE.out rz' hS9.bel)
  subst c0
  by_cases c1 : v0 = 0
  · have d1 : ((v0 : Int) == 0) = true := by simp [c1]
    have HE := Lib.hid (show aget l = (zeroA, p1, 0) by
      rw [aget_zero (by rw [← HF.out.2.1, c1]; rfl), if_neg (by rw [HF.out.2.2.2]; simp), ← HF.out.2.2.1])
    clear c1
    have hst := @wpList_store_blk Tryd.prog _ _ _ _ ((HT0.out).get 0 rfl) 35 0 17 [.int .i64 0, .int .i64 0, .int .i64 0, .int .i64 0, .int .i64 0, .int .i64 0, .int .i64 0, .int .i64 0, .int .i64 0, .int .i64 0, .int .i64 0, .int .i64 0, .int .i64 0, .int .i64 0, .int .i64 0, .int .i64 0, .int .i64 0] rfl (Nat.le_of_ble_eq_true rfl) (by kernel_rfl) (List.all_eq_true.1 rfl)
    have HT := Lib.hid ((OwnR.of (n := 17) (HT0.out) rfl).put [.int .i64 0, .int .i64 0, .int .i64 0, .int .i64 0, .int .i64 0, .int .i64 0, .int .i64 0, .int .i64 0, .int .i64 0, .int .i64 0, .int .i64 0, .int .i64 0, .int .i64 0, .int .i64 0, .int .i64 0, .int .i64 0, .int .i64 0] rfl)
    go_wp2_with (refine hst rfl _ _ rfl rfl rfl ?_)
    refine bodyPost_gen3 (Own w [(x, 35, #[.int .i64 0, .int .i64 0, .int .i64 0, .int .i64 0, .int .i64 0, .int .i64 0, .int .i64 0, .int .i64 0, .int .i64 0, .int .i64 0, .int .i64 0, .int .i64 0, .int .i64 0, .int .i64 0, .int .i64 0, .int .i64 0, .int .i64 0])]) HT.out ?_
    intro w9 hS9
    exact bodyPost_ret (v := .tuple #[.agg [.int .i64 0, .int .i64 0, .int .i64 0, .int .i64 0, .int .i64 0, .int .i64 0, .int .i64 0, .int .i64 0, .int .i64 0, .int .i64 0, .int .i64 0, .int .i64 0, .int .i64 0, .int .i64 0, .int .i64 0, .int .i64 0, .int .i64 0].toArray, .int .i64 (p1 : Nat), .int .i64 0]) (results_blk3 (P := Tryd.prog) Tryd.results6 rfl (hS9.get 0 rfl) 17 [.int .i64 0, .int .i64 0, .int .i64 0, .int .i64 0, .int .i64 0, .int .i64 0, .int .i64 0, .int .i64 0, .int .i64 0, .int .i64 0, .int .i64 0, .int .i64 0, .int .i64 0, .int .i64 0, .int .i64 0, .int .i64 0, .int .i64 0] _ Tryd.underlying35 rfl rfl (by kernel_rfl) (fun j _ => by simp)) rfl (rrd_post (a := zeroA) (p := p1) (e := 0) HE.out rz' hS9.bel)
  have d1 : ((v0 : Int) == 0) = false := by simp [c1]
  have hnz : IntKind.i64.wrap ((rdVal l 0 : Nat) : Int) ≠ 0 := by rw [← HF.out.2.1, IntKind.wrap_i64]; omega
  have HNZ := Lib.hid hnz
  clear hnz c1
  obtain ⟨cc, hcc⟩ : ∃ cc : Nat, cc = if 4611686018427387904 < v0 then 9223372036854775808 else v0 := ⟨_, rfl⟩
  have HCC := Lib.hid hcc
  clear hcc
  go_upto_if 32 with (fail)
  go_cut [5] (fun s5 wx => s5 = .int .u64 (cc : Nat) ∧ Own w [(x, 35, #[.int .i64 0, .int .i64 0, .int .i64 0, .int .i64 0, .int .i64 0, .int .i64 0, .int .i64 0, .int .i64 0, .int .i64 0, .int .i64 0, .int .i64 0, .int .i64 0, .int .i64 0, .int .i64 0, .int .i64 0, .int .i64 0, .int .i64 0])] wx)
  case first =>
    by_cases h : 4611686018427387904 < v0
    · have d2 : (4611686018427387904 : Int) < (v0 : Int) := by omega
      have d3 : decide ((4611686018427387904 : Int) < (v0 : Int)) = true := by simp; omega
      have hq : cc = 9223372036854775808 := by rw [HCC.out, if_pos h]
      subst hq
      clear h
      go_wp2_with fail
      go_meet
      exact ⟨rfl, HT0.out⟩
    · have d2 : ¬ (4611686018427387904 : Int) < (v0 : Int) := by omega
      have d3 : decide ((4611686018427387904 : Int) < (v0 : Int)) = false := by simp; omega
      have hq : cc = v0 := by rw [HCC.out, if_neg h]
      subst hq
      clear h
      go_wp2_with fail
      go_meet
      exact ⟨rfl, HT0.out⟩
  case rest =>
    obtain ⟨rfl, hS⟩ := hcut
    clear HT0 d1
    have HS := Lib.hid hS
    clear hS
    obtain ⟨A1, dd1, p2, v1, e1, h1⟩ := rd_step HR.out 1 p1 HF.out.2.2.1
    have ks1 := h1.add
    have hp2n := h1.qn
    have sl1 := h1.slice
    have H1 := Lib.hid h1
    clear h1
    go_wp2_with fail
    refine (H1.out.int _ HS.out.bel).mono ?_
    rintro e w3 ⟨rfl, hb⟩
    have HT1 := Lib.hid (HS.out.call hb)
    clear hb HS sl1
    obtain ⟨hz, hhz⟩ : ∃ z, z = zag v1 := ⟨_, rfl⟩
    rw [← hhz]
    have HHZ := Lib.hid hhz
    clear hhz
    by_cases c1 : e1 = 0
    rotate_left
    · have d1 : ((e1 : Int) != 0) = true := by simp [c1]
      have HE := Lib.hid (aget_err (H1.out.e_is HF.out.2.2.2) c1 (by omega) (.inr HNZ.out))
      clear c1
      have hst := @wpList_store_blk Tryd.prog _ _ _ _ ((HT1.out).get 0 rfl) 35 0 17 [.int .i64 0, .int .i64 0, .int .i64 0, .int .i64 0, .int .i64 0, .int .i64 0, .int .i64 0, .int .i64 0, .int .i64 0, .int .i64 0, .int .i64 0, .int .i64 0, .int .i64 0, .int .i64 0, .int .i64 0, .int .i64 0, .int .i64 0] rfl (Nat.le_of_ble_eq_true rfl) (by kernel_rfl) (List.all_eq_true.1 rfl)
      have HT := Lib.hid ((OwnR.of (n := 17) (HT1.out) rfl).put [.int .i64 0, .int .i64 0, .int .i64 0, .int .i64 0, .int .i64 0, .int .i64 0, .int .i64 0, .int .i64 0, .int .i64 0, .int .i64 0, .int .i64 0, .int .i64 0, .int .i64 0, .int .i64 0, .int .i64 0, .int .i64 0, .int .i64 0] rfl)
      go_wp2_with (refine hst rfl _ _ rfl rfl rfl ?_)
      refine bodyPost_gen3 (Own w [(x, 35, #[.int .i64 0, .int .i64 0, .int .i64 0, .int .i64 0, .int .i64 0, .int .i64 0, .int .i64 0, .int .i64 0, .int .i64 0, .int .i64 0, .int .i64 0, .int .i64 0, .int .i64 0, .int .i64 0, .int .i64 0, .int .i64 0, .int .i64 0])]) HT.out ?_
      intro w9 hS9
      exact bodyPost_ret (v := .tuple #[.agg [.int .i64 0, .int .i64 0, .int .i64 0, .int .i64 0, .int .i64 0, .int .i64 0, .int .i64 0, .int .i64 0, .int .i64 0, .int .i64 0, .int .i64 0, .int .i64 0, .int .i64 0, .int .i64 0, .int .i64 0, .int .i64 0, .int .i64 0].toArray, .int .i64 0, .int .i64 (e1 : Nat)]) (results_blk3 (P := Tryd.prog) Tryd.results6 rfl (hS9.get 0 rfl) 17 [.int .i64 0, .int .i64 0, .int .i64 0, .int .i64 0, .int .i64 0, .int .i64 0, .int .i64 0, .int .i64 0, .int .i64 0, .int .i64 0, .int .i64 0, .int .i64 0, .int .i64 0, .int .i64 0, .int .i64 0, .int .i64 0, .int .i64 0] _ Tryd.underlying35 rfl rfl (by kernel_rfl) (fun j _ => by simp)) rfl (rrd_post (a := zeroA) HE.out rz' hS9.bel)
    subst c1
    have hb12 : (p1 : Int) + (dd1 : Int) ≤ 1125899906842624 := by omega
    go_upto_region 12 with (fail)
    try rw [ks1]
    clear ks1 hb12
    obtain ⟨A2, dd2, p3, v2, e2, h2⟩ := rd_step HR.out 2 p2 H1.out.q_is
    have ks2 := h2.add
    have hp3n := h2.qn
    have sl2 := h2.slice
    have H2 := Lib.hid h2
    clear h2
    go_wp2_with fail
    refine (H2.out.num _ HT1.out.bel).mono ?_
    rintro e w4 ⟨rfl, hb⟩
    have HT2 := Lib.hid (HT1.out.call hb)
    clear hb HT1 sl2
    by_cases c2 : e2 = 0
    rotate_left
    · have d2 : ((e2 : Int) != 0) = true := by simp [c2]
      have HE := Lib.hid (aget_err (H2.out.e_is (H1.out.e_is HF.out.2.2.2)) c2 (by omega) (.inr HNZ.out))
      clear c2
      have hst := @wpList_store_blk Tryd.prog _ _ _ _ ((HT2.out).get 0 rfl) 35 0 17 [.int .i64 0, .int .i64 0, .int .i64 0, .int .i64 0, .int .i64 0, .int .i64 0, .int .i64 0, .int .i64 0, .int .i64 0, .int .i64 0, .int .i64 0, .int .i64 0, .int .i64 0, .int .i64 0, .int .i64 0, .int .i64 0, .int .i64 0] rfl (Nat.le_of_ble_eq_true rfl) (by kernel_rfl) (List.all_eq_true.1 rfl)
      have HT := Lib.hid ((OwnR.of (n := 17) (HT2.out) rfl).put [.int .i64 0, .int .i64 0, .int .i64 0, .int .i64 0, .int .i64 0, .int .i64 0, .int .i64 0, .int .i64 0, .int .i64 0, .int .i64 0, .int .i64 0, .int .i64 0, .int .i64 0, .int .i64 0, .int .i64 0, .int .i64 0, .int .i64 0] rfl)
      go_wp2_with (refine hst rfl _ _ rfl rfl rfl ?_)
      refine bodyPost_gen3 (Own w [(x, 35, #[.int .i64 0, .int .i64 0, .int .i64 0, .int .i64 0, .int .i64 0, .int .i64 0, .int .i64 0, .int .i64 0, .int .i64 0, .int .i64 0, .int .i64 0, .int .i64 0, .int .i64 0, .int .i64 0, .int .i64 0, .int .i64 0, .int .i64 0])]) HT.out ?_
      intro w9 hS9
      exact bodyPost_ret (v := .tuple #[.agg [.int .i64 0, .int .i64 0, .int .i64 0, .int .i64 0, .int .i64 0, .int .i64 0, .int .i64 0, .int .i64 0, .int .i64 0, .int .i64 0, .int .i64 0, .int .i64 0, .int .i64 0, .int .i64 0, .int .i64 0, .int .i64 0, .int .i64 0].toArray, .int .i64 0, .int .i64 (e2 : Nat)]) (results_blk3 (P := Tryd.prog) Tryd.results6 rfl (hS9.get 0 rfl) 17 [.int .i64 0, .int .i64 0, .int .i64 0, .int .i64 0, .int .i64 0, .int .i64 0, .int .i64 0, .int .i64 0, .int .i64 0, .int .i64 0, .int .i64 0, .int .i64 0, .int .i64 0, .int .i64 0, .int .i64 0, .int .i64 0, .int .i64 0] _ Tryd.underlying35 rfl rfl (by kernel_rfl) (fun j _ => by simp)) rfl (rrd_post (a := zeroA) HE.out rz' hS9.bel)
    subst c2
    have hb23 : (p2 : Int) + (dd2 : Int) ≤ 1125899906842624 := by omega
    obtain ⟨y, hy⟩ : ∃ y, y = w4.heap.size := ⟨_, rfl⟩
    have o4 := HT2.out.alloc hy 33 #[.int .i64 0, .int .i64 0, .int .i64 0, .int .i64 0, .int .i64 0, .int .i64 0, .int .i64 0, .int .i64 0]
    have H4 := Lib.hid (And.intro hy o4)
    clear hy o4
    have hv2 : v2 < 18446744073709551616 := by rw [H2.out.v_is]; exact rdVal_lt l 2
    go_upto_region 17 with (fail)
    try rw [ks2]
    rw [← H4.out.1]
    clear ks2 hb23
    refine wp_gen (Own w [(x, 35, #[.int .i64 0, .int .i64 0, .int .i64 0, .int .i64 0, .int .i64 0, .int .i64 0, .int .i64 0, .int .i64 0, .int .i64 0, .int .i64 0, .int .i64 0, .int .i64 0, .int .i64 0, .int .i64 0, .int .i64 0, .int .i64 0, .int .i64 0]), (y, 33, #[.int .i64 ((eightF l 0) 0), .int .i64 ((eightF l 0) 1), .int .i64 ((eightF l 0) 2), .int .i64 ((eightF l 0) 3), .int .i64 ((eightF l 0) 4), .int .i64 ((eightF l 0) 5), .int .i64 ((eightF l 0) 6), .int .i64 ((eightF l 0) 7)])]) H4.out.2 ?_
    intro w5 hS
    have HS := Lib.hid hS
    clear hS H4
    have he3 := H2.out.e_is (H1.out.e_is HF.out.2.2.2)
    have HE3 := Lib.hid (And.intro H2.out.q_is he3)
    clear he3
    go_wp2_with fail
    go_loopw [6, 12] (fun s6 i wr => ∃ (k p : Nat), k ≤ 8 ∧ i = .int .i64 (k : Nat) ∧ s6 = .int .i64 (p : Nat) ∧ p = (rdAt l (3 + k)).1 ∧ (rdAt l (3 + k)).2 = 0 ∧ Own w [(x, 35, #[.int .i64 0, .int .i64 0, .int .i64 0, .int .i64 0, .int .i64 0, .int .i64 0, .int .i64 0, .int .i64 0, .int .i64 0, .int .i64 0, .int .i64 0, .int .i64 0, .int .i64 0, .int .i64 0, .int .i64 0, .int .i64 0, .int .i64 0]), (y, 33, #[.int .i64 ((eightF l k) 0), .int .i64 ((eightF l k) 1), .int .i64 ((eightF l k) 2), .int .i64 ((eightF l k) 3), .int .i64 ((eightF l k) 4), .int .i64 ((eightF l k) 5), .int .i64 ((eightF l k) 6), .int .i64 ((eightF l k) 7)])] wr) (fun _ i _ => 8 - (intOf i).toNat)
    case atStart => exact ⟨0, p3, by omega, rfl, rfl, HE3.out.1, HE3.out.2, HS.out⟩
    case round =>
      obtain ⟨k, p, hk, rfl, rfl, hp, he, hS⟩ := hrel
      by_cases hlt : k < 8
      · obtain ⟨A3, dd, q, v, e3, h3⟩ := rd_step HR.out (3 + k) p hp
        have ks3 := h3.add
        have hqn := h3.qn
        have sl3 := h3.slice
        have hpn : p ≤ n := by have := rdAt_le l (3 + k); rw [HR.out.len] at this; omega
        have H3 := Lib.hid (And.intro h3 he)
        have HS3 := Lib.hid hS
        clear h3 hp he hS hk
        go_wp2_with fail
        refine (H3.out.1.int _ HS3.out.bel).mono ?_
        rintro e w6 ⟨rfl, hb⟩
        have HT3 := Lib.hid (HS3.out.call hb)
        clear hb sl3
        obtain ⟨z, hz⟩ : ∃ z, z = zag v := ⟨_, rfl⟩
        rw [← hz]
        have HZ := Lib.hid hz
        clear hz
        by_cases c3 : e3 = 0
        rotate_left
        · have d3 : ((e3 : Int) != 0) = true := by simp [c3]
          have HE := Lib.hid (aget_err (H3.out.1.e_is H3.out.2) c3 (by omega) (.inr HNZ.out))
          clear c3
          have hst := @wpList_store_blk Tryd.prog _ _ _ _ ((HT3.out).get 0 rfl) 35 0 17 [.int .i64 0, .int .i64 0, .int .i64 0, .int .i64 0, .int .i64 0, .int .i64 0, .int .i64 0, .int .i64 0, .int .i64 0, .int .i64 0, .int .i64 0, .int .i64 0, .int .i64 0, .int .i64 0, .int .i64 0, .int .i64 0, .int .i64 0] rfl (Nat.le_of_ble_eq_true rfl) (by kernel_rfl) (List.all_eq_true.1 rfl)
          have HT := Lib.hid ((OwnR.of (n := 17) (HT3.out) rfl).put [.int .i64 0, .int .i64 0, .int .i64 0, .int .i64 0, .int .i64 0, .int .i64 0, .int .i64 0, .int .i64 0, .int .i64 0, .int .i64 0, .int .i64 0, .int .i64 0, .int .i64 0, .int .i64 0, .int .i64 0, .int .i64 0, .int .i64 0] rfl)
          go_wp2_with (refine hst rfl _ _ rfl rfl rfl ?_)
          refine bodyPost_gen3 (Own w [(x, 35, #[.int .i64 0, .int .i64 0, .int .i64 0, .int .i64 0, .int .i64 0, .int .i64 0, .int .i64 0, .int .i64 0, .int .i64 0, .int .i64 0, .int .i64 0, .int .i64 0, .int .i64 0, .int .i64 0, .int .i64 0, .int .i64 0, .int .i64 0]), (y, 33, #[.int .i64 ((eightF l k) 0), .int .i64 ((eightF l k) 1), .int .i64 ((eightF l k) 2), .int .i64 ((eightF l k) 3), .int .i64 ((eightF l k) 4), .int .i64 ((eightF l k) 5), .int .i64 ((eightF l k) 6), .int .i64 ((eightF l k) 7)])]) HT.out ?_
          intro w9 hS9
          exact bodyPost_ret (v := .tuple #[.agg [.int .i64 0, .int .i64 0, .int .i64 0, .int .i64 0, .int .i64 0, .int .i64 0, .int .i64 0, .int .i64 0, .int .i64 0, .int .i64 0, .int .i64 0, .int .i64 0, .int .i64 0, .int .i64 0, .int .i64 0, .int .i64 0, .int .i64 0].toArray, .int .i64 0, .int .i64 (e3 : Nat)]) (results_blk3 (P := Tryd.prog) Tryd.results6 rfl (hS9.get 0 rfl) 17 [.int .i64 0, .int .i64 0, .int .i64 0, .int .i64 0, .int .i64 0, .int .i64 0, .int .i64 0, .int .i64 0, .int .i64 0, .int .i64 0, .int .i64 0, .int .i64 0, .int .i64 0, .int .i64 0, .int .i64 0, .int .i64 0, .int .i64 0] _ Tryd.underlying35 rfl rfl (by kernel_rfl) (fun j _ => by simp)) rfl (rrd_post (a := zeroA) HE.out rz' hS9.bel)
        subst c3
        have hb3 : (p : Int) + (dd : Int) ≤ 1125899906842624 := by omega
        have hk8 : (k : Int) < 8 := by omega
        have zf1 := HT3.out.free 1 rfl
        have zc : w6.cell? ⟨y, k, none⟩ = some (.int .i64 (eightF l k k)) := by rw [(HT3.out.get 1 rfl).cell k]; exact f8_get (eightF l k) k hlt
        have hset := HT3.out.set 1 k rfl (.int .i64 z)
        rw [f8_set (eightF l k) k hlt, HZ.out, H3.out.1.v_is, f8_congr (eight_step l k hlt)] at hset
        rw [← H3.out.1.v_is, ← HZ.out] at hset
        have HST := Lib.hid hset
        clear hset
        go_upto_region 24 with (fail)
        try rw [ks3]
        clear ks3 hb3
        go_wp2_with fail
        go_roundw
        case rel => exact ⟨k + 1, q, by omega, by go_num, rfl, H3.out.1.q_is, H3.out.1.e_is H3.out.2, HST.out⟩
        case measure => simp [intOf] <;> omega
      · obtain rfl : k = 8 := by omega
        have HP := Lib.hid (And.intro hp he)
        have hS8 := hS
        clear hp he hk hlt hS
        obtain ⟨f, hf⟩ : ∃ f, f = eightF l 8 := ⟨_, rfl⟩
        rw [← hf] at hS8
        obtain ⟨nn, hnn⟩ : ∃ nn, nn = IntKind.i64.wrap (cc : Int) := ⟨_, rfl⟩
        have kcc : IntKind.i64.wrap (cc : Int) = nn := hnn.symm
        obtain ⟨s, hs⟩ : ∃ s, s = (aggRd l).s := ⟨_, rfl⟩
        have hss : S128 s := by rw [hs]; exact (aggRd_full l).ok.2.1
        have hsh : hiOf s = hz := by rw [hs, (aggRd_hi l).1, HHZ.out, H1.out.v_is]
        have hsl : loOf s = (v2 : Nat) := by rw [hs, (aggRd_hi l).2, H2.out.v_is]
        obtain ⟨fs, hfs⟩ : ∃ fs, lim s = fs := ⟨_, rfl⟩
        have hlim := limbs_is s hss hz (v2 : Nat) hsh hsl fs hfs
        obtain ⟨a, ha⟩ : ∃ a : Ag, a = ⟨nn, s, f 0, f 1, ⟨f 2, f 3, f 4⟩, ⟨f 5, f 6, f 7⟩⟩ := ⟨_, rfl⟩
        have hae : a = { aggRd l with n := nn } := by rw [ha, hf, hs]; exact eight_ag l nn
        have hfull : AgFull a := by
          rw [hae]
          exact agFull_n (aggRd_full l) nn (by rw [hnn]; unfold I64; simp only [IntKind.wrap_i64]; omega)
        have hval := rvalid_any a hfull
        have hvv : validA a = validA (aggRd l) ∧ (validA (aggRd l) = true → a = aggRd l) := by
          have hn0 : (aggRd l).n = IntKind.i64.wrap (v0 : Int) := by rw [HF.out.2.1]; exact aggRd_n l
          by_cases hbg : 4611686018427387904 < v0
          · have f1 : validA (aggRd l) = false := by
              unfold validA
              rw [if_neg (by rw [hn0, IntKind.wrap_i64]; omega)]
              by_cases g1 : ¬ 0 < (aggRd l).n
              · rw [if_pos g1]
              · rw [if_neg g1, if_pos (by rw [hn0, IntKind.wrap_i64] at g1 ⊢; omega)]
            have f2 : validA a = false := by
              have : a.n = nn := by rw [ha]
              have hq : nn = -9223372036854775808 := by rw [hnn, HCC.out, if_pos hbg]; rfl
              unfold validA
              rw [if_neg (by omega), if_pos (by omega)]
            rw [f1, f2]
            exact ⟨rfl, fun h => by cases h⟩
          · have hq : a = aggRd l := by rw [hae, hnn, HCC.out, if_neg hbg, ← hn0]
            rw [hq]
            exact ⟨rfl, fun _ => rfl⟩
        rw [hvv.1] at hval
        have hrag : (.agg #[.int .i64 a.n, .int .i64 (lim (a.s) 0), .int .i64 (lim (a.s) 1), .int .i64 (lim (a.s) 2), .int .i64 (lim (a.s) 3), .int .i64 (lim (a.s) 4), .int .i64 (lim (a.s) 5), .int .i64 (lim (a.s) 6), .int .i64 (lim (a.s) 7), .int .i64 a.lo, .int .i64 a.hi, .int .i64 a.f.t, .int .i64 a.f.v, .int .i64 a.f.s, .int .i64 a.l.t, .int .i64 a.l.v, .int .i64 a.l.s] : Value) = .agg #[.int .i64 a.n, .int .i64 (fs 0), .int .i64 (fs 1), .int .i64 (fs 2), .int .i64 (fs 3), .int .i64 (fs 4), .int .i64 (fs 5), .int .i64 (fs 6), .int .i64 (fs 7), .int .i64 a.lo, .int .i64 a.hi, .int .i64 a.f.t, .int .i64 a.f.v, .int .i64 a.f.s, .int .i64 a.l.t, .int .i64 a.l.v, .int .i64 a.l.s] := by rw [← hfs]; rw [ha]
        have HA := Lib.hid (And.intro hval (And.intro hvv (And.intro hrag (And.intro hlim ha))))
        clear hval hvv hrag hfull hae hss hsh hsl hlim hs hf hnn ha
        have HS8 := Lib.hid hS8
        clear hS8 HS HT2
        go_upto_region 25 with (fail)
        go_cut [16] from 85 to 108 (fun s16 wx => ∃ g, s16 = .pointer (some ⟨g, 0, none⟩) ∧ Own w [(g, 35, #[.int .i64 a.n, .int .i64 (fs 0), .int .i64 (fs 1), .int .i64 (fs 2), .int .i64 (fs 3), .int .i64 (fs 4), .int .i64 (fs 5), .int .i64 (fs 6), .int .i64 (fs 7), .int .i64 a.lo, .int .i64 a.hi, .int .i64 a.f.t, .int .i64 a.f.v, .int .i64 a.f.s, .int .i64 a.l.t, .int .i64 a.l.v, .int .i64 a.l.s]), (x, 35, #[.int .i64 0, .int .i64 0, .int .i64 0, .int .i64 0, .int .i64 0, .int .i64 0, .int .i64 0, .int .i64 0, .int .i64 0, .int .i64 0, .int .i64 0, .int .i64 0, .int .i64 0, .int .i64 0, .int .i64 0, .int .i64 0, .int .i64 0]), (y, 33, #[.int .i64 (f 0), .int .i64 (f 1), .int .i64 (f 2), .int .i64 (f 3), .int .i64 (f 4), .int .i64 (f 5), .int .i64 (f 6), .int .i64 (f 7)])] wx)
        case first =>
          have hS1 := HS8.out.drew
          have hS : (Own w [(x, 35, #[.int .i64 0, .int .i64 0, .int .i64 0, .int .i64 0, .int .i64 0, .int .i64 0, .int .i64 0, .int .i64 0, .int .i64 0, .int .i64 0, .int .i64 0, .int .i64 0, .int .i64 0, .int .i64 0, .int .i64 0, .int .i64 0, .int .i64 0]), (y, 33, #[.int .i64 (f 0), .int .i64 (f 1), .int .i64 (f 2), .int .i64 (f 3), .int .i64 (f 4), .int .i64 (f 5), .int .i64 (f 6), .int .i64 (f 7)])]) (wr.drew) := hS1
          refine reg_start (Own w [(x, 35, #[.int .i64 0, .int .i64 0, .int .i64 0, .int .i64 0, .int .i64 0, .int .i64 0, .int .i64 0, .int .i64 0, .int .i64 0, .int .i64 0, .int .i64 0, .int .i64 0, .int .i64 0, .int .i64 0, .int .i64 0, .int .i64 0, .int .i64 0]), (y, 33, #[.int .i64 (f 0), .int .i64 (f 1), .int .i64 (f 2), .int .i64 (f 3), .int .i64 (f 4), .int .i64 (f 5), .int .i64 (f 6), .int .i64 (f 7)])]) (by kernel_rfl) hS ?_
          refine reg_take (i := 0) (v := ?_) rfl (by kernel_rfl) (by kernel_rfl) (by kernel_rfl) (fun _ _ _ h => h) (Or.inl ⟨by kernel_rfl, ?_⟩) hS ?_
          rotate_left
          · (intro w' hSw; go_simp <;> with_reducible rfl)
          try simp only [List.getElem_toArray, List.getElem_cons_succ, List.getElem_cons_zero, Act.put, List.setIfInBounds_toArray, List.set_cons_zero, List.set_cons_succ]
          refine reg_take (i := 1) (v := ?_) rfl (by kernel_rfl) (by kernel_rfl) (by kernel_rfl) (fun _ _ _ h => h) (Or.inl ⟨by kernel_rfl, ?_⟩) hS ?_
          rotate_left
          · (intro w' hSw; go_simp <;> with_reducible rfl)
          try simp only [List.getElem_toArray, List.getElem_cons_succ, List.getElem_cons_zero, Act.put, List.setIfInBounds_toArray, List.set_cons_zero, List.set_cons_succ]
          refine reg_take (i := 2) (v := ?_) rfl (by kernel_rfl) (by kernel_rfl) (by kernel_rfl) (fun _ _ _ h => h) (Or.inl ⟨by kernel_rfl, ?_⟩) hS ?_
          rotate_left
          · (intro w' hSw; go_simp <;> with_reducible rfl)
          try simp only [List.getElem_toArray, List.getElem_cons_succ, List.getElem_cons_zero, Act.put, List.setIfInBounds_toArray, List.set_cons_zero, List.set_cons_succ]
          refine reg_take (i := 3) (v := ?_) rfl (by kernel_rfl) (by kernel_rfl) (by kernel_rfl) (fun _ _ _ h => h) (Or.inl ⟨by kernel_rfl, ?_⟩) hS ?_
          rotate_left
          · (intro w' hSw; go_simp <;> with_reducible rfl)
          try simp only [List.getElem_toArray, List.getElem_cons_succ, List.getElem_cons_zero, Act.put, List.setIfInBounds_toArray, List.set_cons_zero, List.set_cons_succ]
          refine reg_take (i := 5) (v := ?_) rfl (by kernel_rfl) (by kernel_rfl) (by kernel_rfl) (fun _ _ _ h => h) (Or.inl ⟨by kernel_rfl, ?_⟩) hS ?_
          rotate_left
          · (intro w' hSw; go_simp <;> with_reducible rfl)
          try simp only [List.getElem_toArray, List.getElem_cons_succ, List.getElem_cons_zero, Act.put, List.setIfInBounds_toArray, List.set_cons_zero, List.set_cons_succ]
          refine reg_take (i := 6) (v := ?_) rfl (by kernel_rfl) (by kernel_rfl) (by kernel_rfl) (fun _ _ _ h => h) (Or.inl ⟨by kernel_rfl, ?_⟩) hS ?_
          rotate_left
          · (intro w' hSw; have u0 := hSw.cell 1 0 rfl rfl; go_simp <;> with_reducible rfl)
          try simp only [List.getElem_toArray, List.getElem_cons_succ, List.getElem_cons_zero, Act.put, List.setIfInBounds_toArray, List.set_cons_zero, List.set_cons_succ]
          refine reg_take (i := 7) (v := ?_) rfl (by kernel_rfl) (by kernel_rfl) (by kernel_rfl) (fun _ _ _ h => h) (Or.inl ⟨by kernel_rfl, ?_⟩) hS ?_
          rotate_left
          · (intro w' hSw; go_simp <;> with_reducible rfl)
          try simp only [List.getElem_toArray, List.getElem_cons_succ, List.getElem_cons_zero, Act.put, List.setIfInBounds_toArray, List.set_cons_zero, List.set_cons_succ]
          refine reg_take (i := 8) (v := ?_) rfl (by kernel_rfl) (by kernel_rfl) (by kernel_rfl) (fun _ _ _ h => h) (Or.inl ⟨by kernel_rfl, ?_⟩) hS ?_
          rotate_left
          · (intro w' hSw; have u0 := hSw.cell 1 1 rfl rfl; go_simp <;> with_reducible rfl)
          try simp only [List.getElem_toArray, List.getElem_cons_succ, List.getElem_cons_zero, Act.put, List.setIfInBounds_toArray, List.set_cons_zero, List.set_cons_succ]
          refine reg_take (i := 9) (v := ?_) rfl (by kernel_rfl) (by kernel_rfl) (by kernel_rfl) (fun _ _ _ h => h) (Or.inl ⟨by kernel_rfl, ?_⟩) hS ?_
          rotate_left
          · (intro w' hSw; go_simp <;> with_reducible rfl)
          try simp only [List.getElem_toArray, List.getElem_cons_succ, List.getElem_cons_zero, Act.put, List.setIfInBounds_toArray, List.set_cons_zero, List.set_cons_succ]
          refine reg_take (i := 10) (v := ?_) rfl (by kernel_rfl) (by kernel_rfl) (by kernel_rfl) (fun _ _ _ h => h) (Or.inl ⟨by kernel_rfl, ?_⟩) hS ?_
          rotate_left
          · (intro w' hSw; have u0 := hSw.cell 1 2 rfl rfl; go_simp <;> with_reducible rfl)
          try simp only [List.getElem_toArray, List.getElem_cons_succ, List.getElem_cons_zero, Act.put, List.setIfInBounds_toArray, List.set_cons_zero, List.set_cons_succ]
          refine reg_take (i := 11) (v := ?_) rfl (by kernel_rfl) (by kernel_rfl) (by kernel_rfl) (fun _ _ _ h => h) (Or.inl ⟨by kernel_rfl, ?_⟩) hS ?_
          rotate_left
          · (intro w' hSw; go_simp <;> with_reducible rfl)
          try simp only [List.getElem_toArray, List.getElem_cons_succ, List.getElem_cons_zero, Act.put, List.setIfInBounds_toArray, List.set_cons_zero, List.set_cons_succ]
          refine reg_take (i := 12) (v := ?_) rfl (by kernel_rfl) (by kernel_rfl) (by kernel_rfl) (fun _ _ _ h => h) (Or.inl ⟨by kernel_rfl, ?_⟩) hS ?_
          rotate_left
          · (intro w' hSw; have u0 := hSw.cell 1 3 rfl rfl; go_simp <;> with_reducible rfl)
          try simp only [List.getElem_toArray, List.getElem_cons_succ, List.getElem_cons_zero, Act.put, List.setIfInBounds_toArray, List.set_cons_zero, List.set_cons_succ]
          refine reg_take (i := 13) (v := ?_) rfl (by kernel_rfl) (by kernel_rfl) (by kernel_rfl) (fun _ _ _ h => h) (Or.inl ⟨by kernel_rfl, ?_⟩) hS ?_
          rotate_left
          · (intro w' hSw; go_simp <;> with_reducible rfl)
          try simp only [List.getElem_toArray, List.getElem_cons_succ, List.getElem_cons_zero, Act.put, List.setIfInBounds_toArray, List.set_cons_zero, List.set_cons_succ]
          refine reg_take (i := 14) (v := ?_) rfl (by kernel_rfl) (by kernel_rfl) (by kernel_rfl) (fun _ _ _ h => h) (Or.inl ⟨by kernel_rfl, ?_⟩) hS ?_
          rotate_left
          · (intro w' hSw; have u0 := hSw.cell 1 4 rfl rfl; go_simp <;> with_reducible rfl)
          try simp only [List.getElem_toArray, List.getElem_cons_succ, List.getElem_cons_zero, Act.put, List.setIfInBounds_toArray, List.set_cons_zero, List.set_cons_succ]
          refine reg_take (i := 15) (v := ?_) rfl (by kernel_rfl) (by kernel_rfl) (by kernel_rfl) (fun _ _ _ h => h) (Or.inl ⟨by kernel_rfl, ?_⟩) hS ?_
          rotate_left
          · (intro w' hSw; go_simp <;> with_reducible rfl)
          try simp only [List.getElem_toArray, List.getElem_cons_succ, List.getElem_cons_zero, Act.put, List.setIfInBounds_toArray, List.set_cons_zero, List.set_cons_succ]
          refine reg_take (i := 16) (v := ?_) rfl (by kernel_rfl) (by kernel_rfl) (by kernel_rfl) (fun _ _ _ h => h) (Or.inl ⟨by kernel_rfl, ?_⟩) hS ?_
          rotate_left
          · (intro w' hSw; go_simp <;> with_reducible rfl)
          try simp only [List.getElem_toArray, List.getElem_cons_succ, List.getElem_cons_zero, Act.put, List.setIfInBounds_toArray, List.set_cons_zero, List.set_cons_succ]
          refine reg_take (i := 17) (v := ?_) rfl (by kernel_rfl) (by kernel_rfl) (by kernel_rfl) (fun _ _ _ h => h) (Or.inl ⟨by kernel_rfl, ?_⟩) hS ?_
          rotate_left
          · (intro w' hSw; have u0 := hSw.cell 1 5 rfl rfl; go_simp <;> with_reducible rfl)
          try simp only [List.getElem_toArray, List.getElem_cons_succ, List.getElem_cons_zero, Act.put, List.setIfInBounds_toArray, List.set_cons_zero, List.set_cons_succ]
          refine reg_take (i := 18) (v := ?_) rfl (by kernel_rfl) (by kernel_rfl) (by kernel_rfl) (fun _ _ _ h => h) (Or.inl ⟨by kernel_rfl, ?_⟩) hS ?_
          rotate_left
          · (intro w' hSw; go_simp <;> with_reducible rfl)
          try simp only [List.getElem_toArray, List.getElem_cons_succ, List.getElem_cons_zero, Act.put, List.setIfInBounds_toArray, List.set_cons_zero, List.set_cons_succ]
          refine reg_take (i := 19) (v := ?_) rfl (by kernel_rfl) (by kernel_rfl) (by kernel_rfl) (fun _ _ _ h => h) (Or.inl ⟨by kernel_rfl, ?_⟩) hS ?_
          rotate_left
          · (intro w' hSw; have u0 := hSw.cell 1 6 rfl rfl; go_simp <;> with_reducible rfl)
          try simp only [List.getElem_toArray, List.getElem_cons_succ, List.getElem_cons_zero, Act.put, List.setIfInBounds_toArray, List.set_cons_zero, List.set_cons_succ]
          refine reg_take (i := 20) (v := ?_) rfl (by kernel_rfl) (by kernel_rfl) (by kernel_rfl) (fun _ _ _ h => h) (Or.inl ⟨by kernel_rfl, ?_⟩) hS ?_
          rotate_left
          · (intro w' hSw; go_simp <;> with_reducible rfl)
          try simp only [List.getElem_toArray, List.getElem_cons_succ, List.getElem_cons_zero, Act.put, List.setIfInBounds_toArray, List.set_cons_zero, List.set_cons_succ]
          refine reg_take (i := 21) (v := ?_) rfl (by kernel_rfl) (by kernel_rfl) (by kernel_rfl) (fun _ _ _ h => h) (Or.inl ⟨by kernel_rfl, ?_⟩) hS ?_
          rotate_left
          · (intro w' hSw; have u0 := hSw.cell 1 7 rfl rfl; go_simp <;> with_reducible rfl)
          try simp only [List.getElem_toArray, List.getElem_cons_succ, List.getElem_cons_zero, Act.put, List.setIfInBounds_toArray, List.set_cons_zero, List.set_cons_succ]
          refine reg_take (i := 22) (v := ?_) rfl (by kernel_rfl) (by kernel_rfl) (by kernel_rfl) (fun _ _ _ h => h) (Or.inl ⟨by kernel_rfl, ?_⟩) hS ?_
          rotate_left
          · (intro w' hSw; go_simp <;> with_reducible rfl)
          try simp only [List.getElem_toArray, List.getElem_cons_succ, List.getElem_cons_zero, Act.put, List.setIfInBounds_toArray, List.set_cons_zero, List.set_cons_succ]
          refine reg_two (i := 4) (j := 24) rfl rfl (by kernel_rfl) (fun K hK => ?_) (fun K hK => ?_)
          · skip
            have HK := Lib.hid hK
            clear hK
            go_simp
            refine (HA.out.2.2.2.1 _).mono ?_
            rintro e v1' ⟨rfl, hb1⟩
            have HB := Lib.hid (hS.call hb1)
            clear hb1
            go_wp2_with fail
            refine HK.out.go (Own w [(x, 35, #[.int .i64 0, .int .i64 0, .int .i64 0, .int .i64 0, .int .i64 0, .int .i64 0, .int .i64 0, .int .i64 0, .int .i64 0, .int .i64 0, .int .i64 0, .int .i64 0, .int .i64 0, .int .i64 0, .int .i64 0, .int .i64 0, .int .i64 0]), (y, 33, #[.int .i64 (f 0), .int .i64 (f 1), .int .i64 (f 2), .int .i64 (f 3), .int .i64 (f 4), .int .i64 (f 5), .int .i64 (f 6), .int .i64 (f 7)])]) (fun _ h => h) (HB.out) ?_
            clear HK hS
            intro w7 hS
            try simp only [List.getElem_toArray, List.getElem_cons_succ, List.getElem_cons_zero, Act.put, List.setIfInBounds_toArray, List.set_cons_zero, List.set_cons_succ]
            refine reg_take (i := 23) (v := ?_) rfl (by kernel_rfl) (by kernel_rfl) (by kernel_rfl) (fun _ _ _ h => h) (Or.inl ⟨by kernel_rfl, ?_⟩) hS ?_
            rotate_left
            · (intro w' hSw; go_simp <;> with_reducible rfl)
            try simp only [List.getElem_toArray, List.getElem_cons_succ, List.getElem_cons_zero, Act.put, List.setIfInBounds_toArray, List.set_cons_zero, List.set_cons_succ]
            obtain ⟨g, hg⟩ : ∃ g, g = w7.heap.size := ⟨_, rfl⟩
            have HG := Lib.hid (And.intro hg ((hS.alloc (show g = w7.heap.size from hg) 35 #[.int .i64 0, .int .i64 0, .int .i64 0, .int .i64 0, .int .i64 0, .int .i64 0, .int .i64 0, .int .i64 0, .int .i64 0, .int .i64 0, .int .i64 0, .int .i64 0, .int .i64 0, .int .i64 0, .int .i64 0, .int .i64 0, .int .i64 0]).front 2 rfl))
            clear hg
            refine reg_call (i := 24) rfl (by kernel_rfl) (fun K hK => ?_)
            have HK := Lib.hid hK
            clear hK
            go_simp
            rw [← HG.out.1]
            go_wp2_with fail
            refine HK.out.go (OwnR w g 35 17 [(x, 35, #[.int .i64 0, .int .i64 0, .int .i64 0, .int .i64 0, .int .i64 0, .int .i64 0, .int .i64 0, .int .i64 0, .int .i64 0, .int .i64 0, .int .i64 0, .int .i64 0, .int .i64 0, .int .i64 0, .int .i64 0, .int .i64 0, .int .i64 0]), (y, 33, #[.int .i64 (f 0), .int .i64 (f 1), .int .i64 (f 2), .int .i64 (f 3), .int .i64 (f 4), .int .i64 (f 5), .int .i64 (f 6), .int .i64 (f 7)])]) (fun _ h => h.rest) (OwnR.of HG.out.2 rfl) ?_
            clear HK hS
            intro v4 hS
            try simp only [List.getElem_toArray, List.getElem_cons_succ, List.getElem_cons_zero, Act.put, List.setIfInBounds_toArray, List.set_cons_zero, List.set_cons_succ]
            refine reg_call (i := 25) rfl (by kernel_rfl) (fun K hK => ?_)
            have HK := Lib.hid hK
            clear hK
            obtain ⟨cs, hcs, hO⟩ := hS
            refine step_store_blk (hO.get 0 rfl) 35 0 17 [.int .i64 a.n, .int .i64 (fs 0), .int .i64 (fs 1), .int .i64 (fs 2), .int .i64 (fs 3), .int .i64 (fs 4), .int .i64 (fs 5), .int .i64 (fs 6), .int .i64 (fs 7), .int .i64 a.lo, .int .i64 a.hi, .int .i64 a.f.t, .int .i64 a.f.v, .int .i64 a.f.s, .int .i64 a.l.t, .int .i64 a.l.v, .int .i64 a.l.s] rfl (by omega) (by kernel_rfl) (List.all_eq_true.1 rfl) rfl _ _ rfl rfl (by rw [HA.out.2.2.2.2]; rfl) ?_
            have HT := Lib.hid ((OwnR.of hO hcs).put [.int .i64 a.n, .int .i64 (fs 0), .int .i64 (fs 1), .int .i64 (fs 2), .int .i64 (fs 3), .int .i64 (fs 4), .int .i64 (fs 5), .int .i64 (fs 6), .int .i64 (fs 7), .int .i64 a.lo, .int .i64 a.hi, .int .i64 a.f.t, .int .i64 a.f.v, .int .i64 a.f.s, .int .i64 a.l.t, .int .i64 a.l.v, .int .i64 a.l.s] rfl)
            refine HK.out.go (Own w [(g, 35, #[.int .i64 a.n, .int .i64 (fs 0), .int .i64 (fs 1), .int .i64 (fs 2), .int .i64 (fs 3), .int .i64 (fs 4), .int .i64 (fs 5), .int .i64 (fs 6), .int .i64 (fs 7), .int .i64 a.lo, .int .i64 a.hi, .int .i64 a.f.t, .int .i64 a.f.v, .int .i64 a.f.s, .int .i64 a.l.t, .int .i64 a.l.v, .int .i64 a.l.s]), (x, 35, #[.int .i64 0, .int .i64 0, .int .i64 0, .int .i64 0, .int .i64 0, .int .i64 0, .int .i64 0, .int .i64 0, .int .i64 0, .int .i64 0, .int .i64 0, .int .i64 0, .int .i64 0, .int .i64 0, .int .i64 0, .int .i64 0, .int .i64 0]), (y, 33, #[.int .i64 (f 0), .int .i64 (f 1), .int .i64 (f 2), .int .i64 (f 3), .int .i64 (f 4), .int .i64 (f 5), .int .i64 (f 6), .int .i64 (f 7)])]) (fun _ h => OwnR.of h rfl) HT.out ?_
            clear HK hO
            intro v9 hS
            try simp only [List.getElem_toArray, List.getElem_cons_succ, List.getElem_cons_zero, Act.put, List.setIfInBounds_toArray, List.set_cons_zero, List.set_cons_succ]
            refine wpAnyH_done (by kernel_rfl) ?_ _
            try simp only [List.getElem_toArray, List.getElem_cons_succ, List.getElem_cons_zero]
            try simp only [List.getElem_toArray, List.getElem_cons_succ, List.getElem_cons_zero, Act.put, List.setIfInBounds_toArray, List.set_cons_zero, List.set_cons_succ]
            have HU := Lib.hid hS
            clear hS
            go_wp2_with fail
            go_meet
            exact ⟨g, rfl, HU.out⟩
          · skip
            obtain ⟨g, hg⟩ : ∃ g, g = wr.heap.size := ⟨_, rfl⟩
            have HG := Lib.hid (And.intro hg ((hS.alloc (show g = wr.drew.heap.size from hg) 35 #[.int .i64 0, .int .i64 0, .int .i64 0, .int .i64 0, .int .i64 0, .int .i64 0, .int .i64 0, .int .i64 0, .int .i64 0, .int .i64 0, .int .i64 0, .int .i64 0, .int .i64 0, .int .i64 0, .int .i64 0, .int .i64 0, .int .i64 0]).front 2 rfl))
            clear hg
            have HK := Lib.hid hK
            clear hK
            go_simp
            rw [← HG.out.1]
            go_wp2_with fail
            refine HK.out.go (OwnR w g 35 17 [(x, 35, #[.int .i64 0, .int .i64 0, .int .i64 0, .int .i64 0, .int .i64 0, .int .i64 0, .int .i64 0, .int .i64 0, .int .i64 0, .int .i64 0, .int .i64 0, .int .i64 0, .int .i64 0, .int .i64 0, .int .i64 0, .int .i64 0, .int .i64 0]), (y, 33, #[.int .i64 (f 0), .int .i64 (f 1), .int .i64 (f 2), .int .i64 (f 3), .int .i64 (f 4), .int .i64 (f 5), .int .i64 (f 6), .int .i64 (f 7)])]) (fun _ h => h.rest) (OwnR.of HG.out.2 rfl) ?_
            clear HK hS
            intro v4 hS
            try simp only [List.getElem_toArray, List.getElem_cons_succ, List.getElem_cons_zero, Act.put, List.setIfInBounds_toArray, List.set_cons_zero, List.set_cons_succ]
            refine reg_call (i := 4) rfl (by kernel_rfl) (fun K hK => ?_)
            have HK := Lib.hid hK
            clear hK
            go_simp
            refine (HA.out.2.2.2.1 _).mono ?_
            rintro e v1' ⟨rfl, hb1⟩
            have HB := Lib.hid (hS.call hb1)
            clear hb1
            go_wp2_with fail
            refine HK.out.go (OwnR w g 35 17 [(x, 35, #[.int .i64 0, .int .i64 0, .int .i64 0, .int .i64 0, .int .i64 0, .int .i64 0, .int .i64 0, .int .i64 0, .int .i64 0, .int .i64 0, .int .i64 0, .int .i64 0, .int .i64 0, .int .i64 0, .int .i64 0, .int .i64 0, .int .i64 0]), (y, 33, #[.int .i64 (f 0), .int .i64 (f 1), .int .i64 (f 2), .int .i64 (f 3), .int .i64 (f 4), .int .i64 (f 5), .int .i64 (f 6), .int .i64 (f 7)])]) (fun _ h => h) (HB.out) ?_
            clear HK hS
            intro w7 hS
            try simp only [List.getElem_toArray, List.getElem_cons_succ, List.getElem_cons_zero, Act.put, List.setIfInBounds_toArray, List.set_cons_zero, List.set_cons_succ]
            refine reg_take (i := 23) (v := ?_) rfl (by kernel_rfl) (by kernel_rfl) (by kernel_rfl) (fun _ _ _ h => h) (Or.inl ⟨by kernel_rfl, ?_⟩) hS ?_
            rotate_left
            · (intro w' hSw; go_simp <;> with_reducible rfl)
            try simp only [List.getElem_toArray, List.getElem_cons_succ, List.getElem_cons_zero, Act.put, List.setIfInBounds_toArray, List.set_cons_zero, List.set_cons_succ]
            refine reg_call (i := 25) rfl (by kernel_rfl) (fun K hK => ?_)
            have HK := Lib.hid hK
            clear hK
            obtain ⟨cs, hcs, hO⟩ := hS
            refine step_store_blk (hO.get 0 rfl) 35 0 17 [.int .i64 a.n, .int .i64 (fs 0), .int .i64 (fs 1), .int .i64 (fs 2), .int .i64 (fs 3), .int .i64 (fs 4), .int .i64 (fs 5), .int .i64 (fs 6), .int .i64 (fs 7), .int .i64 a.lo, .int .i64 a.hi, .int .i64 a.f.t, .int .i64 a.f.v, .int .i64 a.f.s, .int .i64 a.l.t, .int .i64 a.l.v, .int .i64 a.l.s] rfl (by omega) (by kernel_rfl) (List.all_eq_true.1 rfl) rfl _ _ rfl rfl (by rw [HA.out.2.2.2.2]; rfl) ?_
            have HT := Lib.hid ((OwnR.of hO hcs).put [.int .i64 a.n, .int .i64 (fs 0), .int .i64 (fs 1), .int .i64 (fs 2), .int .i64 (fs 3), .int .i64 (fs 4), .int .i64 (fs 5), .int .i64 (fs 6), .int .i64 (fs 7), .int .i64 a.lo, .int .i64 a.hi, .int .i64 a.f.t, .int .i64 a.f.v, .int .i64 a.f.s, .int .i64 a.l.t, .int .i64 a.l.v, .int .i64 a.l.s] rfl)
            refine HK.out.go (Own w [(g, 35, #[.int .i64 a.n, .int .i64 (fs 0), .int .i64 (fs 1), .int .i64 (fs 2), .int .i64 (fs 3), .int .i64 (fs 4), .int .i64 (fs 5), .int .i64 (fs 6), .int .i64 (fs 7), .int .i64 a.lo, .int .i64 a.hi, .int .i64 a.f.t, .int .i64 a.f.v, .int .i64 a.f.s, .int .i64 a.l.t, .int .i64 a.l.v, .int .i64 a.l.s]), (x, 35, #[.int .i64 0, .int .i64 0, .int .i64 0, .int .i64 0, .int .i64 0, .int .i64 0, .int .i64 0, .int .i64 0, .int .i64 0, .int .i64 0, .int .i64 0, .int .i64 0, .int .i64 0, .int .i64 0, .int .i64 0, .int .i64 0, .int .i64 0]), (y, 33, #[.int .i64 (f 0), .int .i64 (f 1), .int .i64 (f 2), .int .i64 (f 3), .int .i64 (f 4), .int .i64 (f 5), .int .i64 (f 6), .int .i64 (f 7)])]) (fun _ h => OwnR.of h rfl) HT.out ?_
            clear HK hO
            intro v9 hS
            try simp only [List.getElem_toArray, List.getElem_cons_succ, List.getElem_cons_zero, Act.put, List.setIfInBounds_toArray, List.set_cons_zero, List.set_cons_succ]
            refine wpAnyH_done (by kernel_rfl) ?_ _
            try simp only [List.getElem_toArray, List.getElem_cons_succ, List.getElem_cons_zero]
            try simp only [List.getElem_toArray, List.getElem_cons_succ, List.getElem_cons_zero, Act.put, List.setIfInBounds_toArray, List.set_cons_zero, List.set_cons_succ]
            have HU := Lib.hid hS
            clear hS
            go_wp2_with fail
            go_meet
            exact ⟨g, rfl, HU.out⟩
        case rest =>
          obtain ⟨g, rfl, hS⟩ := hcut
          clear HS8
          have hl0 := @wpList_load_blk Tryd.prog _ _ _ _ (hS.get 0 rfl) 35 0 17 [.int .i64 a.n, .int .i64 (fs 0), .int .i64 (fs 1), .int .i64 (fs 2), .int .i64 (fs 3), .int .i64 (fs 4), .int .i64 (fs 5), .int .i64 (fs 6), .int .i64 (fs 7), .int .i64 a.lo, .int .i64 a.hi, .int .i64 a.f.t, .int .i64 a.f.v, .int .i64 a.f.s, .int .i64 a.l.t, .int .i64 a.l.v, .int .i64 a.l.s] _ Tryd.underlying35 rfl rfl (by kernel_rfl) (fun j _ => by simp)
          have HS := Lib.hid hS
          clear hS
          go_wp2_with (refine hl0 rfl _ rfl rfl ?_)
          have hvc := HA.out.1
          rw [HA.out.2.2.1] at hvc
          refine (hvc _).mono ?_
          rintro e w8 ⟨rfl, hb⟩
          have hS := HS.out.call hb
          clear hl0 hb HS hvc
          have h11 : (rdAt l 11).2 = 0 := HP.out.2
          cases hv : validA (aggRd l) with
          | true =>
            have haq := HA.out.2.1.2 hv
            have HE := Lib.hid (show aget l = (a, p, 0) by
              rw [aget_some HNZ.out, if_neg (by rw [h11]; simp), if_pos hv, haq, HP.out.1])
            have hl1 := @wpList_load_blk Tryd.prog _ _ _ _ (hS.get 0 rfl) 35 0 17 [.int .i64 a.n, .int .i64 (fs 0), .int .i64 (fs 1), .int .i64 (fs 2), .int .i64 (fs 3), .int .i64 (fs 4), .int .i64 (fs 5), .int .i64 (fs 6), .int .i64 (fs 7), .int .i64 a.lo, .int .i64 a.hi, .int .i64 a.f.t, .int .i64 a.f.v, .int .i64 a.f.s, .int .i64 a.l.t, .int .i64 a.l.v, .int .i64 a.l.s] _ Tryd.underlying35 rfl rfl (by kernel_rfl) (fun j _ => by simp)
            have hst := @wpList_store_blk Tryd.prog _ _ _ _ (hS.get 1 rfl) 35 0 17 [.int .i64 a.n, .int .i64 (fs 0), .int .i64 (fs 1), .int .i64 (fs 2), .int .i64 (fs 3), .int .i64 (fs 4), .int .i64 (fs 5), .int .i64 (fs 6), .int .i64 (fs 7), .int .i64 a.lo, .int .i64 a.hi, .int .i64 a.f.t, .int .i64 a.f.v, .int .i64 a.f.s, .int .i64 a.l.t, .int .i64 a.l.v, .int .i64 a.l.s] rfl (Nat.le_of_ble_eq_true rfl) (by kernel_rfl) (List.all_eq_true.1 rfl)
            have HT := Lib.hid ((OwnR.of (n := 17) (hS.front 1 rfl) rfl).put [.int .i64 a.n, .int .i64 (fs 0), .int .i64 (fs 1), .int .i64 (fs 2), .int .i64 (fs 3), .int .i64 (fs 4), .int .i64 (fs 5), .int .i64 (fs 6), .int .i64 (fs 7), .int .i64 a.lo, .int .i64 a.hi, .int .i64 a.f.t, .int .i64 a.f.v, .int .i64 a.f.s, .int .i64 a.l.t, .int .i64 a.l.v, .int .i64 a.l.s] rfl)
            clear hv haq h11 hS
            go_wp2_with (first | (refine hst rfl _ _ rfl rfl rfl ?_) | (refine hl1 rfl _ rfl rfl ?_))
            refine bodyPost_gen3 (Own w [(x, 35, #[.int .i64 a.n, .int .i64 (fs 0), .int .i64 (fs 1), .int .i64 (fs 2), .int .i64 (fs 3), .int .i64 (fs 4), .int .i64 (fs 5), .int .i64 (fs 6), .int .i64 (fs 7), .int .i64 a.lo, .int .i64 a.hi, .int .i64 a.f.t, .int .i64 a.f.v, .int .i64 a.f.s, .int .i64 a.l.t, .int .i64 a.l.v, .int .i64 a.l.s]), (g, 35, #[.int .i64 a.n, .int .i64 (fs 0), .int .i64 (fs 1), .int .i64 (fs 2), .int .i64 (fs 3), .int .i64 (fs 4), .int .i64 (fs 5), .int .i64 (fs 6), .int .i64 (fs 7), .int .i64 a.lo, .int .i64 a.hi, .int .i64 a.f.t, .int .i64 a.f.v, .int .i64 a.f.s, .int .i64 a.l.t, .int .i64 a.l.v, .int .i64 a.l.s]), (y, 33, #[.int .i64 (f 0), .int .i64 (f 1), .int .i64 (f 2), .int .i64 (f 3), .int .i64 (f 4), .int .i64 (f 5), .int .i64 (f 6), .int .i64 (f 7)])]) HT.out ?_
            intro w9 hS9
            exact bodyPost_ret (v := .tuple #[.agg [.int .i64 a.n, .int .i64 (fs 0), .int .i64 (fs 1), .int .i64 (fs 2), .int .i64 (fs 3), .int .i64 (fs 4), .int .i64 (fs 5), .int .i64 (fs 6), .int .i64 (fs 7), .int .i64 a.lo, .int .i64 a.hi, .int .i64 a.f.t, .int .i64 a.f.v, .int .i64 a.f.s, .int .i64 a.l.t, .int .i64 a.l.v, .int .i64 a.l.s].toArray, .int .i64 (p : Nat), .int .i64 0]) (results_blk3 (P := Tryd.prog) Tryd.results6 rfl (hS9.get 0 rfl) 17 [.int .i64 a.n, .int .i64 (fs 0), .int .i64 (fs 1), .int .i64 (fs 2), .int .i64 (fs 3), .int .i64 (fs 4), .int .i64 (fs 5), .int .i64 (fs 6), .int .i64 (fs 7), .int .i64 a.lo, .int .i64 a.hi, .int .i64 a.f.t, .int .i64 a.f.v, .int .i64 a.f.s, .int .i64 a.l.t, .int .i64 a.l.v, .int .i64 a.l.s] _ Tryd.underlying35 rfl rfl (by kernel_rfl) (fun j _ => by simp)) rfl (rrd_post (a := a) (p := p) (e := 0) HE.out HA.out.2.2.1 hS9.bel)
          | false =>
            have HE := Lib.hid (show aget l = (zeroA, 0, 11) by
              rw [aget_some HNZ.out, if_neg (by rw [h11]; simp), if_neg (by rw [hv]; simp)])
            have hst := @wpList_store_blk Tryd.prog _ _ _ _ (hS.get 1 rfl) 35 0 17 [.int .i64 0, .int .i64 0, .int .i64 0, .int .i64 0, .int .i64 0, .int .i64 0, .int .i64 0, .int .i64 0, .int .i64 0, .int .i64 0, .int .i64 0, .int .i64 0, .int .i64 0, .int .i64 0, .int .i64 0, .int .i64 0, .int .i64 0] rfl (Nat.le_of_ble_eq_true rfl) (by kernel_rfl) (List.all_eq_true.1 rfl)
            have HT := Lib.hid ((OwnR.of (n := 17) (hS.front 1 rfl) rfl).put [.int .i64 0, .int .i64 0, .int .i64 0, .int .i64 0, .int .i64 0, .int .i64 0, .int .i64 0, .int .i64 0, .int .i64 0, .int .i64 0, .int .i64 0, .int .i64 0, .int .i64 0, .int .i64 0, .int .i64 0, .int .i64 0, .int .i64 0] rfl)
            clear hv h11 hS
            go_wp2_with (refine hst rfl _ _ rfl rfl rfl ?_)
            refine bodyPost_gen3 (Own w [(x, 35, #[.int .i64 0, .int .i64 0, .int .i64 0, .int .i64 0, .int .i64 0, .int .i64 0, .int .i64 0, .int .i64 0, .int .i64 0, .int .i64 0, .int .i64 0, .int .i64 0, .int .i64 0, .int .i64 0, .int .i64 0, .int .i64 0, .int .i64 0]), (g, 35, #[.int .i64 a.n, .int .i64 (fs 0), .int .i64 (fs 1), .int .i64 (fs 2), .int .i64 (fs 3), .int .i64 (fs 4), .int .i64 (fs 5), .int .i64 (fs 6), .int .i64 (fs 7), .int .i64 a.lo, .int .i64 a.hi, .int .i64 a.f.t, .int .i64 a.f.v, .int .i64 a.f.s, .int .i64 a.l.t, .int .i64 a.l.v, .int .i64 a.l.s]), (y, 33, #[.int .i64 (f 0), .int .i64 (f 1), .int .i64 (f 2), .int .i64 (f 3), .int .i64 (f 4), .int .i64 (f 5), .int .i64 (f 6), .int .i64 (f 7)])]) HT.out ?_
            intro w9 hS9
            exact bodyPost_ret (v := .tuple #[.agg [.int .i64 0, .int .i64 0, .int .i64 0, .int .i64 0, .int .i64 0, .int .i64 0, .int .i64 0, .int .i64 0, .int .i64 0, .int .i64 0, .int .i64 0, .int .i64 0, .int .i64 0, .int .i64 0, .int .i64 0, .int .i64 0, .int .i64 0].toArray, .int .i64 0, .int .i64 11]) (results_blk3 (P := Tryd.prog) Tryd.results6 rfl (hS9.get 0 rfl) 17 [.int .i64 0, .int .i64 0, .int .i64 0, .int .i64 0, .int .i64 0, .int .i64 0, .int .i64 0, .int .i64 0, .int .i64 0, .int .i64 0, .int .i64 0, .int .i64 0, .int .i64 0, .int .i64 0, .int .i64 0, .int .i64 0, .int .i64 0] _ Tryd.underlying35 rfl rfl (by kernel_rfl) (fun j _ => by simp)) rfl (rrd_post (a := zeroA) (p := 0) (e := 11) HE.out rz' hS9.bel)
end Go.Proofs.YthhgnngpaagagaaDoor
