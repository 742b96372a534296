/-
  The contract of tidemillref08.Merge. (Printed by mk.py.)
-/
import Derived.Test.YthhgnngpaagagaaLmB
import Derived.Test.YthhgnngpaagagaaLmD
import Derived.Test.YthhgnngpaagagaaLmS
import Derived.Deep.DeepCutAuto
namespace Go.Proofs.Ythhgnngpaagagaa
open Go.RowKit
set_option linter.unusedVariables false
set_option linter.unusedSimpArgs false
def RMergePost (a b : Ag) (w : World) (e : Ending) (w' : World) : Prop :=
  ∃ (r : Ag) (er : Int), mergeR a b = (r, er) ∧ e = .returned (.tuple #[.agg #[.int .i64 r.n, .int .i64 (lim (r.s) 0), .int .i64 (lim (r.s) 1), .int .i64 (lim (r.s) 2), .int .i64 (lim (r.s) 3), .int .i64 (lim (r.s) 4), .int .i64 (lim (r.s) 5), .int .i64 (lim (r.s) 6), .int .i64 (lim (r.s) 7), .int .i64 r.lo, .int .i64 r.hi, .int .i64 r.f.t, .int .i64 r.f.v, .int .i64 r.f.s, .int .i64 r.l.t, .int .i64 r.l.v, .int .i64 r.l.s], .int .i64 er]) ∧ Below w.heap.size w w'
theorem rz : (.agg #[.int .i64 zeroA.n, .int .i64 (lim (zeroA.s) 0), .int .i64 (lim (zeroA.s) 1), .int .i64 (lim (zeroA.s) 2), .int .i64 (lim (zeroA.s) 3), .int .i64 (lim (zeroA.s) 4), .int .i64 (lim (zeroA.s) 5), .int .i64 (lim (zeroA.s) 6), .int .i64 (lim (zeroA.s) 7), .int .i64 zeroA.lo, .int .i64 zeroA.hi, .int .i64 zeroA.f.t, .int .i64 zeroA.f.v, .int .i64 zeroA.f.s, .int .i64 zeroA.l.t, .int .i64 zeroA.l.v, .int .i64 zeroA.l.s] : Value) = Value.agg #[.int .i64 0, .int .i64 0, .int .i64 0, .int .i64 0, .int .i64 0, .int .i64 0, .int .i64 0, .int .i64 0, .int .i64 0, .int .i64 0, .int .i64 0, .int .i64 0, .int .i64 0, .int .i64 0, .int .i64 0, .int .i64 0, .int .i64 0] := by
  have e : ∀ i, lim zeroA.s i = 0 := lim_zero
  simp only [e]
  rfl
/-- Some cells of the first block are written, one behind the other. -/
theorem Own.putN {w0 : World} {L : List (Nat × TypeId × Array Value)} {g : Nat} {t : TypeId} : ∀ (vs : List Value) (k : Nat) (w : World) (cs cs' : List Value), Own w0 ((g, t, cs.toArray) :: L) w → k + vs.length ≤ cs.length → cs' = cs.take k ++ vs ++ cs.drop (k + vs.length) → Own w0 ((g, t, cs'.toArray) :: L) (setFrom w g k vs) := by
  intro vs k w cs cs' h hl he
  have h2 := Own.setFrom_own vs k w cs.toArray h
  have e : setArr cs.toArray k vs = cs'.toArray := by
    apply Array.ext_getElem?
    intro i
    have hk : (cs.take k).length = k := by rw [List.length_take]; omega
    have hr : cs'.toArray[i]? = (cs.take k ++ (vs ++ cs.drop (k + vs.length)))[i]? := by rw [he, List.append_assoc]; simp
    rw [hr]
    by_cases h1 : i < k
    · rw [setArr_low vs k _ i h1, List.getElem?_append_left (by omega), List.getElem?_take_of_lt h1]
      simp
    · obtain ⟨j, rfl⟩ : ∃ j, i = k + j := ⟨i - k, by omega⟩
      rw [setArr_get vs k _ j (by simpa using hl), List.getElem?_append_right (by omega), hk, show k + j - k = j by omega]
      by_cases h3 : j < vs.length
      · rw [if_pos h3, List.getElem?_append_left h3]
      · rw [if_neg h3, List.getElem?_append_right (by omega), List.getElem?_drop]
        simp
        congr 1
        omega
  rw [e] at h2
  exact h2
/-- The world under another name, at a function's end. -/
theorem bodyPost_gen {P : Program} {f : Func} {post : Ending → World → Prop} {ex : Exit} {a : Act} {w : World} (S : World → Prop) (hS : S w) (h : ∀ w, S w → bodyPost P f post ex a w) : bodyPost P f post ex a w := h w hS
theorem rm_post {a b r : Ag} {er : Int} {w w' : World} {v : Value} (h : mergeR a b = (r, er)) (hv : v = .tuple #[.agg #[.int .i64 r.n, .int .i64 (lim (r.s) 0), .int .i64 (lim (r.s) 1), .int .i64 (lim (r.s) 2), .int .i64 (lim (r.s) 3), .int .i64 (lim (r.s) 4), .int .i64 (lim (r.s) 5), .int .i64 (lim (r.s) 6), .int .i64 (lim (r.s) 7), .int .i64 r.lo, .int .i64 r.hi, .int .i64 r.f.t, .int .i64 r.f.v, .int .i64 r.f.s, .int .i64 r.l.t, .int .i64 r.l.v, .int .i64 r.l.s], .int .i64 er]) (hb : Below w.heap.size w w') : RMergePost a b w (.returned v) w' := by
  subst hv
  exact ⟨r, er, h, rfl, hb⟩
set_option maxRecDepth 100000 in
set_option maxHeartbeats 16000000 in
theorem rmerge_any (a b : Ag) (ha : AgOk a) (hb : AgOk b) (w : World) : Calls Try.prog 11 #[.agg #[.int .i64 a.n, .int .i64 (lim (a.s) 0), .int .i64 (lim (a.s) 1), .int .i64 (lim (a.s) 2), .int .i64 (lim (a.s) 3), .int .i64 (lim (a.s) 4), .int .i64 (lim (a.s) 5), .int .i64 (lim (a.s) 6), .int .i64 (lim (a.s) 7), .int .i64 a.lo, .int .i64 a.hi, .int .i64 a.f.t, .int .i64 a.f.v, .int .i64 a.f.s, .int .i64 a.l.t, .int .i64 a.l.v, .int .i64 a.l.s], .agg #[.int .i64 b.n, .int .i64 (lim (b.s) 0), .int .i64 (lim (b.s) 1), .int .i64 (lim (b.s) 2), .int .i64 (lim (b.s) 3), .int .i64 (lim (b.s) 4), .int .i64 (lim (b.s) 5), .int .i64 (lim (b.s) 6), .int .i64 (lim (b.s) 7), .int .i64 b.lo, .int .i64 b.hi, .int .i64 b.f.t, .int .i64 b.f.v, .int .i64 b.f.s, .int .i64 b.l.t, .int .i64 b.l.v, .int .i64 b.l.s]] w (RMergePost a b w) := by
  have hadd := radd_any a.s b.s ha.2.1 hb.2.1
  have HH := Lib.hid (And.intro ha hb)
  clear ha hb
  generalize hfa : lim a.s = fa at hadd ⊢
  generalize hfb : lim b.s = fb at hadd ⊢
  have HFA := Lib.hid (And.intro hfa hfb)
  clear hfa hfb
  obtain ⟨x, hx⟩ : ∃ x, x = w.heap.size := ⟨_, rfl⟩
  have o0 := Own.own3 w hx 40 #[.int .i64 a.n, .int .i64 (fa 0), .int .i64 (fa 1), .int .i64 (fa 2), .int .i64 (fa 3), .int .i64 (fa 4), .int .i64 (fa 5), .int .i64 (fa 6), .int .i64 (fa 7), .int .i64 a.lo, .int .i64 a.hi, .int .i64 a.f.t, .int .i64 a.f.v, .int .i64 a.f.s, .int .i64 a.l.t, .int .i64 a.l.v, .int .i64 a.l.s] 40 #[.int .i64 b.n, .int .i64 (fb 0), .int .i64 (fb 1), .int .i64 (fb 2), .int .i64 (fb 3), .int .i64 (fb 4), .int .i64 (fb 5), .int .i64 (fb 6), .int .i64 (fb 7), .int .i64 b.lo, .int .i64 b.hi, .int .i64 b.f.t, .int .i64 b.f.v, .int .i64 b.f.s, .int .i64 b.l.t, .int .i64 b.l.v, .int .i64 b.l.s] 40 #[.int .i64 0, .int .i64 0, .int .i64 0, .int .i64 0, .int .i64 0, .int .i64 0, .int .i64 0, .int .i64 0, .int .i64 0, .int .i64 0, .int .i64 0, .int .i64 0, .int .i64 0, .int .i64 0, .int .i64 0, .int .i64 0, .int .i64 0]
  have HADD := Lib.hid hadd
  clear hadd
  have HO := Lib.hid (And.intro hx o0)
  clear hx o0
  go_enter Try.func11, Try.ntmps11
  go_upto_region 1 with (fail)
  rw [← HO.out.1]
  have hS := HO.out.2
  generalize World.alloc _ _ = w0 at hS ⊢
  generalize Value.agg #[.int .i64 a.n, .int .i64 (fa 0), .int .i64 (fa 1), .int .i64 (fa 2), .int .i64 (fa 3), .int .i64 (fa 4), .int .i64 (fa 5), .int .i64 (fa 6), .int .i64 (fa 7), .int .i64 a.lo, .int .i64 a.hi, .int .i64 a.f.t, .int .i64 a.f.v, .int .i64 a.f.s, .int .i64 a.l.t, .int .i64 a.l.v, .int .i64 a.l.s] = V0
  generalize Value.agg #[.int .i64 b.n, .int .i64 (fb 0), .int .i64 (fb 1), .int .i64 (fb 2), .int .i64 (fb 3), .int .i64 (fb 4), .int .i64 (fb 5), .int .i64 (fb 6), .int .i64 (fb 7), .int .i64 b.lo, .int .i64 b.hi, .int .i64 b.f.t, .int .i64 b.f.v, .int .i64 b.f.s, .int .i64 b.l.t, .int .i64 b.l.v, .int .i64 b.l.s] = V1
  have HW := Lib.hid hS
  have z0_0 := hS.cell 0 0 rfl rfl
  have z1_0 := hS.cell 1 0 rfl rfl
  clear hS
  by_cases h1 : a.n < 0
  · have HR := Lib.hid (show mergeR a b = (zeroA, 2) by unfold mergeR; rw [if_pos (.inl h1)])
    have d1 : decide (a.n < 0) = true := by simp [h1]
    have hst := @wpList_store_blk Try.prog _ _ _ _ (HW.out.get 2 rfl) 40 0 17 [.int .i64 0, .int .i64 0, .int .i64 0, .int .i64 0, .int .i64 0, .int .i64 0, .int .i64 0, .int .i64 0, .int .i64 0, .int .i64 0, .int .i64 0, .int .i64 0, .int .i64 0, .int .i64 0, .int .i64 0, .int .i64 0, .int .i64 0] rfl (by decide) (by kernel_rfl) (List.all_eq_true.1 rfl)
    go_wp2_with (refine hst rfl _ _ rfl rfl rfl ?_)
    refine bodyPost_gen (Own w [(x + 1 + 1, 40, #[.int .i64 0, .int .i64 0, .int .i64 0, .int .i64 0, .int .i64 0, .int .i64 0, .int .i64 0, .int .i64 0, .int .i64 0, .int .i64 0, .int .i64 0, .int .i64 0, .int .i64 0, .int .i64 0, .int .i64 0, .int .i64 0, .int .i64 0]), (x, 40, #[.int .i64 a.n, .int .i64 (fa 0), .int .i64 (fa 1), .int .i64 (fa 2), .int .i64 (fa 3), .int .i64 (fa 4), .int .i64 (fa 5), .int .i64 (fa 6), .int .i64 (fa 7), .int .i64 a.lo, .int .i64 a.hi, .int .i64 a.f.t, .int .i64 a.f.v, .int .i64 a.f.s, .int .i64 a.l.t, .int .i64 a.l.v, .int .i64 a.l.s]), (x + 1, 40, #[.int .i64 b.n, .int .i64 (fb 0), .int .i64 (fb 1), .int .i64 (fb 2), .int .i64 (fb 3), .int .i64 (fb 4), .int .i64 (fb 5), .int .i64 (fb 6), .int .i64 (fb 7), .int .i64 b.lo, .int .i64 b.hi, .int .i64 b.f.t, .int .i64 b.f.v, .int .i64 b.f.s, .int .i64 b.l.t, .int .i64 b.l.v, .int .i64 b.l.s])]) ((OwnR.of (n := 17) (HW.out.front 2 rfl) rfl).put [.int .i64 0, .int .i64 0, .int .i64 0, .int .i64 0, .int .i64 0, .int .i64 0, .int .i64 0, .int .i64 0, .int .i64 0, .int .i64 0, .int .i64 0, .int .i64 0, .int .i64 0, .int .i64 0, .int .i64 0, .int .i64 0, .int .i64 0] rfl) ?_
    intro w9 hS9
    exact bodyPost_ret (v := .tuple #[.agg #[.int .i64 0, .int .i64 0, .int .i64 0, .int .i64 0, .int .i64 0, .int .i64 0, .int .i64 0, .int .i64 0, .int .i64 0, .int .i64 0, .int .i64 0, .int .i64 0, .int .i64 0, .int .i64 0, .int .i64 0, .int .i64 0, .int .i64 0], .int .i64 2]) (results_blk2 (P := Try.prog) Try.results11 rfl (hS9.get 0 rfl) 17 [.int .i64 0, .int .i64 0, .int .i64 0, .int .i64 0, .int .i64 0, .int .i64 0, .int .i64 0, .int .i64 0, .int .i64 0, .int .i64 0, .int .i64 0, .int .i64 0, .int .i64 0, .int .i64 0, .int .i64 0, .int .i64 0, .int .i64 0] _ Try.underlying40 rfl rfl (by kernel_rfl) (fun j _ => by simp)) rfl (rm_post HR.out (by rw [rz]) hS9.bel)
  have d1 : decide (a.n < 0) = false := by simp; omega
  by_cases h2 : b.n < 0
  · have HR := Lib.hid (show mergeR a b = (zeroA, 2) by unfold mergeR; rw [if_pos (.inr h2)])
    have d2 : decide (b.n < 0) = true := by simp [h2]
    have hst := @wpList_store_blk Try.prog _ _ _ _ (HW.out.get 2 rfl) 40 0 17 [.int .i64 0, .int .i64 0, .int .i64 0, .int .i64 0, .int .i64 0, .int .i64 0, .int .i64 0, .int .i64 0, .int .i64 0, .int .i64 0, .int .i64 0, .int .i64 0, .int .i64 0, .int .i64 0, .int .i64 0, .int .i64 0, .int .i64 0] rfl (by decide) (by kernel_rfl) (List.all_eq_true.1 rfl)
    go_wp2_with (refine hst rfl _ _ rfl rfl rfl ?_)
    refine bodyPost_gen (Own w [(x + 1 + 1, 40, #[.int .i64 0, .int .i64 0, .int .i64 0, .int .i64 0, .int .i64 0, .int .i64 0, .int .i64 0, .int .i64 0, .int .i64 0, .int .i64 0, .int .i64 0, .int .i64 0, .int .i64 0, .int .i64 0, .int .i64 0, .int .i64 0, .int .i64 0]), (x, 40, #[.int .i64 a.n, .int .i64 (fa 0), .int .i64 (fa 1), .int .i64 (fa 2), .int .i64 (fa 3), .int .i64 (fa 4), .int .i64 (fa 5), .int .i64 (fa 6), .int .i64 (fa 7), .int .i64 a.lo, .int .i64 a.hi, .int .i64 a.f.t, .int .i64 a.f.v, .int .i64 a.f.s, .int .i64 a.l.t, .int .i64 a.l.v, .int .i64 a.l.s]), (x + 1, 40, #[.int .i64 b.n, .int .i64 (fb 0), .int .i64 (fb 1), .int .i64 (fb 2), .int .i64 (fb 3), .int .i64 (fb 4), .int .i64 (fb 5), .int .i64 (fb 6), .int .i64 (fb 7), .int .i64 b.lo, .int .i64 b.hi, .int .i64 b.f.t, .int .i64 b.f.v, .int .i64 b.f.s, .int .i64 b.l.t, .int .i64 b.l.v, .int .i64 b.l.s])]) ((OwnR.of (n := 17) (HW.out.front 2 rfl) rfl).put [.int .i64 0, .int .i64 0, .int .i64 0, .int .i64 0, .int .i64 0, .int .i64 0, .int .i64 0, .int .i64 0, .int .i64 0, .int .i64 0, .int .i64 0, .int .i64 0, .int .i64 0, .int .i64 0, .int .i64 0, .int .i64 0, .int .i64 0] rfl) ?_
    intro w9 hS9
    exact bodyPost_ret (v := .tuple #[.agg #[.int .i64 0, .int .i64 0, .int .i64 0, .int .i64 0, .int .i64 0, .int .i64 0, .int .i64 0, .int .i64 0, .int .i64 0, .int .i64 0, .int .i64 0, .int .i64 0, .int .i64 0, .int .i64 0, .int .i64 0, .int .i64 0, .int .i64 0], .int .i64 2]) (results_blk2 (P := Try.prog) Try.results11 rfl (hS9.get 0 rfl) 17 [.int .i64 0, .int .i64 0, .int .i64 0, .int .i64 0, .int .i64 0, .int .i64 0, .int .i64 0, .int .i64 0, .int .i64 0, .int .i64 0, .int .i64 0, .int .i64 0, .int .i64 0, .int .i64 0, .int .i64 0, .int .i64 0, .int .i64 0] _ Try.underlying40 rfl rfl (by kernel_rfl) (fun j _ => by simp)) rfl (rm_post HR.out (by rw [rz]) hS9.bel)
  have d2 : decide (b.n < 0) = false := by simp; omega
  by_cases h3 : a.n = 0
  · by_cases h4 : b.n = 0
    · have HR := Lib.hid (show mergeR a b = (zeroA, 0) by unfold mergeR; rw [if_neg (by omega), if_pos ⟨h3, h4⟩])
      have d3 : (a.n == 0) = true := by simp [h3]
      have d4 : (b.n == 0) = true := by simp [h4]
      clear h1 h2 h3 h4
      have hst := @wpList_store_blk Try.prog _ _ _ _ (HW.out.get 2 rfl) 40 0 17 [.int .i64 0, .int .i64 0, .int .i64 0, .int .i64 0, .int .i64 0, .int .i64 0, .int .i64 0, .int .i64 0, .int .i64 0, .int .i64 0, .int .i64 0, .int .i64 0, .int .i64 0, .int .i64 0, .int .i64 0, .int .i64 0, .int .i64 0] rfl (by decide) (by kernel_rfl) (List.all_eq_true.1 rfl)
      go_wp2_with (refine hst rfl _ _ rfl rfl rfl ?_)
      refine bodyPost_gen (Own w [(x + 1 + 1, 40, #[.int .i64 0, .int .i64 0, .int .i64 0, .int .i64 0, .int .i64 0, .int .i64 0, .int .i64 0, .int .i64 0, .int .i64 0, .int .i64 0, .int .i64 0, .int .i64 0, .int .i64 0, .int .i64 0, .int .i64 0, .int .i64 0, .int .i64 0]), (x, 40, #[.int .i64 a.n, .int .i64 (fa 0), .int .i64 (fa 1), .int .i64 (fa 2), .int .i64 (fa 3), .int .i64 (fa 4), .int .i64 (fa 5), .int .i64 (fa 6), .int .i64 (fa 7), .int .i64 a.lo, .int .i64 a.hi, .int .i64 a.f.t, .int .i64 a.f.v, .int .i64 a.f.s, .int .i64 a.l.t, .int .i64 a.l.v, .int .i64 a.l.s]), (x + 1, 40, #[.int .i64 b.n, .int .i64 (fb 0), .int .i64 (fb 1), .int .i64 (fb 2), .int .i64 (fb 3), .int .i64 (fb 4), .int .i64 (fb 5), .int .i64 (fb 6), .int .i64 (fb 7), .int .i64 b.lo, .int .i64 b.hi, .int .i64 b.f.t, .int .i64 b.f.v, .int .i64 b.f.s, .int .i64 b.l.t, .int .i64 b.l.v, .int .i64 b.l.s])]) ((OwnR.of (n := 17) (HW.out.front 2 rfl) rfl).put [.int .i64 0, .int .i64 0, .int .i64 0, .int .i64 0, .int .i64 0, .int .i64 0, .int .i64 0, .int .i64 0, .int .i64 0, .int .i64 0, .int .i64 0, .int .i64 0, .int .i64 0, .int .i64 0, .int .i64 0, .int .i64 0, .int .i64 0] rfl) ?_
      intro w9 hS9
      exact bodyPost_ret (v := .tuple #[.agg #[.int .i64 0, .int .i64 0, .int .i64 0, .int .i64 0, .int .i64 0, .int .i64 0, .int .i64 0, .int .i64 0, .int .i64 0, .int .i64 0, .int .i64 0, .int .i64 0, .int .i64 0, .int .i64 0, .int .i64 0, .int .i64 0, .int .i64 0], .int .i64 0]) (results_blk2 (P := Try.prog) Try.results11 rfl (hS9.get 0 rfl) 17 [.int .i64 0, .int .i64 0, .int .i64 0, .int .i64 0, .int .i64 0, .int .i64 0, .int .i64 0, .int .i64 0, .int .i64 0, .int .i64 0, .int .i64 0, .int .i64 0, .int .i64 0, .int .i64 0, .int .i64 0, .int .i64 0, .int .i64 0] _ Try.underlying40 rfl rfl (by kernel_rfl) (fun j _ => by simp)) rfl (rm_post HR.out (by rw [rz]) hS9.bel)
    · have HR := Lib.hid (show mergeR a b = (b, 0) by unfold mergeR; rw [if_neg (by omega), if_neg (by omega), if_pos h3])
      have d3 : (a.n == 0) = true := by simp [h3]
      have d4 : (b.n == 0) = false := by simp [h4]
      clear h1 h2 h3 h4
      have hld := @wpList_load_blk Try.prog _ _ _ _ (HW.out.get 1 rfl) 40 0 17 [.int .i64 b.n, .int .i64 (fb 0), .int .i64 (fb 1), .int .i64 (fb 2), .int .i64 (fb 3), .int .i64 (fb 4), .int .i64 (fb 5), .int .i64 (fb 6), .int .i64 (fb 7), .int .i64 b.lo, .int .i64 b.hi, .int .i64 b.f.t, .int .i64 b.f.v, .int .i64 b.f.s, .int .i64 b.l.t, .int .i64 b.l.v, .int .i64 b.l.s] _ Try.underlying40 rfl rfl (by kernel_rfl) (fun j _ => by simp)
      have hst := @wpList_store_blk Try.prog _ _ _ _ (HW.out.get 2 rfl) 40 0 17 [.int .i64 b.n, .int .i64 (fb 0), .int .i64 (fb 1), .int .i64 (fb 2), .int .i64 (fb 3), .int .i64 (fb 4), .int .i64 (fb 5), .int .i64 (fb 6), .int .i64 (fb 7), .int .i64 b.lo, .int .i64 b.hi, .int .i64 b.f.t, .int .i64 b.f.v, .int .i64 b.f.s, .int .i64 b.l.t, .int .i64 b.l.v, .int .i64 b.l.s] rfl (by decide) (by kernel_rfl) (List.all_eq_true.1 rfl)
      go_wp2_with (first | (refine hst rfl _ _ rfl rfl rfl ?_) | (refine hld rfl _ rfl rfl ?_))
      refine bodyPost_gen (Own w [(x + 1 + 1, 40, #[.int .i64 b.n, .int .i64 (fb 0), .int .i64 (fb 1), .int .i64 (fb 2), .int .i64 (fb 3), .int .i64 (fb 4), .int .i64 (fb 5), .int .i64 (fb 6), .int .i64 (fb 7), .int .i64 b.lo, .int .i64 b.hi, .int .i64 b.f.t, .int .i64 b.f.v, .int .i64 b.f.s, .int .i64 b.l.t, .int .i64 b.l.v, .int .i64 b.l.s]), (x, 40, #[.int .i64 a.n, .int .i64 (fa 0), .int .i64 (fa 1), .int .i64 (fa 2), .int .i64 (fa 3), .int .i64 (fa 4), .int .i64 (fa 5), .int .i64 (fa 6), .int .i64 (fa 7), .int .i64 a.lo, .int .i64 a.hi, .int .i64 a.f.t, .int .i64 a.f.v, .int .i64 a.f.s, .int .i64 a.l.t, .int .i64 a.l.v, .int .i64 a.l.s]), (x + 1, 40, #[.int .i64 b.n, .int .i64 (fb 0), .int .i64 (fb 1), .int .i64 (fb 2), .int .i64 (fb 3), .int .i64 (fb 4), .int .i64 (fb 5), .int .i64 (fb 6), .int .i64 (fb 7), .int .i64 b.lo, .int .i64 b.hi, .int .i64 b.f.t, .int .i64 b.f.v, .int .i64 b.f.s, .int .i64 b.l.t, .int .i64 b.l.v, .int .i64 b.l.s])]) ((OwnR.of (n := 17) (HW.out.front 2 rfl) rfl).put [.int .i64 b.n, .int .i64 (fb 0), .int .i64 (fb 1), .int .i64 (fb 2), .int .i64 (fb 3), .int .i64 (fb 4), .int .i64 (fb 5), .int .i64 (fb 6), .int .i64 (fb 7), .int .i64 b.lo, .int .i64 b.hi, .int .i64 b.f.t, .int .i64 b.f.v, .int .i64 b.f.s, .int .i64 b.l.t, .int .i64 b.l.v, .int .i64 b.l.s] rfl) ?_
      intro w9 hS9
      exact bodyPost_ret (v := .tuple #[.agg #[.int .i64 b.n, .int .i64 (fb 0), .int .i64 (fb 1), .int .i64 (fb 2), .int .i64 (fb 3), .int .i64 (fb 4), .int .i64 (fb 5), .int .i64 (fb 6), .int .i64 (fb 7), .int .i64 b.lo, .int .i64 b.hi, .int .i64 b.f.t, .int .i64 b.f.v, .int .i64 b.f.s, .int .i64 b.l.t, .int .i64 b.l.v, .int .i64 b.l.s], .int .i64 0]) (results_blk2 (P := Try.prog) Try.results11 rfl (hS9.get 0 rfl) 17 [.int .i64 b.n, .int .i64 (fb 0), .int .i64 (fb 1), .int .i64 (fb 2), .int .i64 (fb 3), .int .i64 (fb 4), .int .i64 (fb 5), .int .i64 (fb 6), .int .i64 (fb 7), .int .i64 b.lo, .int .i64 b.hi, .int .i64 b.f.t, .int .i64 b.f.v, .int .i64 b.f.s, .int .i64 b.l.t, .int .i64 b.l.v, .int .i64 b.l.s] _ Try.underlying40 rfl rfl (by kernel_rfl) (fun j _ => by simp)) rfl (rm_post HR.out (by rw [← HFA.out.2]) hS9.bel)
  have d3 : (a.n == 0) = false := by simp [h3]
  by_cases h4 : b.n = 0
  · have HR := Lib.hid (show mergeR a b = (a, 0) by unfold mergeR; rw [if_neg (by omega), if_neg (by omega), if_neg h3, if_pos h4])
    have d4 : (b.n == 0) = true := by simp [h4]
    clear h1 h2 h3 h4
    have hld := @wpList_load_blk Try.prog _ _ _ _ (HW.out.get 0 rfl) 40 0 17 [.int .i64 a.n, .int .i64 (fa 0), .int .i64 (fa 1), .int .i64 (fa 2), .int .i64 (fa 3), .int .i64 (fa 4), .int .i64 (fa 5), .int .i64 (fa 6), .int .i64 (fa 7), .int .i64 a.lo, .int .i64 a.hi, .int .i64 a.f.t, .int .i64 a.f.v, .int .i64 a.f.s, .int .i64 a.l.t, .int .i64 a.l.v, .int .i64 a.l.s] _ Try.underlying40 rfl rfl (by kernel_rfl) (fun j _ => by simp)
    have hst := @wpList_store_blk Try.prog _ _ _ _ (HW.out.get 2 rfl) 40 0 17 [.int .i64 a.n, .int .i64 (fa 0), .int .i64 (fa 1), .int .i64 (fa 2), .int .i64 (fa 3), .int .i64 (fa 4), .int .i64 (fa 5), .int .i64 (fa 6), .int .i64 (fa 7), .int .i64 a.lo, .int .i64 a.hi, .int .i64 a.f.t, .int .i64 a.f.v, .int .i64 a.f.s, .int .i64 a.l.t, .int .i64 a.l.v, .int .i64 a.l.s] rfl (by decide) (by kernel_rfl) (List.all_eq_true.1 rfl)
    go_wp2_with (first | (refine hst rfl _ _ rfl rfl rfl ?_) | (refine hld rfl _ rfl rfl ?_))
    refine bodyPost_gen (Own w [(x + 1 + 1, 40, #[.int .i64 a.n, .int .i64 (fa 0), .int .i64 (fa 1), .int .i64 (fa 2), .int .i64 (fa 3), .int .i64 (fa 4), .int .i64 (fa 5), .int .i64 (fa 6), .int .i64 (fa 7), .int .i64 a.lo, .int .i64 a.hi, .int .i64 a.f.t, .int .i64 a.f.v, .int .i64 a.f.s, .int .i64 a.l.t, .int .i64 a.l.v, .int .i64 a.l.s]), (x, 40, #[.int .i64 a.n, .int .i64 (fa 0), .int .i64 (fa 1), .int .i64 (fa 2), .int .i64 (fa 3), .int .i64 (fa 4), .int .i64 (fa 5), .int .i64 (fa 6), .int .i64 (fa 7), .int .i64 a.lo, .int .i64 a.hi, .int .i64 a.f.t, .int .i64 a.f.v, .int .i64 a.f.s, .int .i64 a.l.t, .int .i64 a.l.v, .int .i64 a.l.s]), (x + 1, 40, #[.int .i64 b.n, .int .i64 (fb 0), .int .i64 (fb 1), .int .i64 (fb 2), .int .i64 (fb 3), .int .i64 (fb 4), .int .i64 (fb 5), .int .i64 (fb 6), .int .i64 (fb 7), .int .i64 b.lo, .int .i64 b.hi, .int .i64 b.f.t, .int .i64 b.f.v, .int .i64 b.f.s, .int .i64 b.l.t, .int .i64 b.l.v, .int .i64 b.l.s])]) ((OwnR.of (n := 17) (HW.out.front 2 rfl) rfl).put [.int .i64 a.n, .int .i64 (fa 0), .int .i64 (fa 1), .int .i64 (fa 2), .int .i64 (fa 3), .int .i64 (fa 4), .int .i64 (fa 5), .int .i64 (fa 6), .int .i64 (fa 7), .int .i64 a.lo, .int .i64 a.hi, .int .i64 a.f.t, .int .i64 a.f.v, .int .i64 a.f.s, .int .i64 a.l.t, .int .i64 a.l.v, .int .i64 a.l.s] rfl) ?_
    intro w9 hS9
    exact bodyPost_ret (v := .tuple #[.agg #[.int .i64 a.n, .int .i64 (fa 0), .int .i64 (fa 1), .int .i64 (fa 2), .int .i64 (fa 3), .int .i64 (fa 4), .int .i64 (fa 5), .int .i64 (fa 6), .int .i64 (fa 7), .int .i64 a.lo, .int .i64 a.hi, .int .i64 a.f.t, .int .i64 a.f.v, .int .i64 a.f.s, .int .i64 a.l.t, .int .i64 a.l.v, .int .i64 a.l.s], .int .i64 0]) (results_blk2 (P := Try.prog) Try.results11 rfl (hS9.get 0 rfl) 17 [.int .i64 a.n, .int .i64 (fa 0), .int .i64 (fa 1), .int .i64 (fa 2), .int .i64 (fa 3), .int .i64 (fa 4), .int .i64 (fa 5), .int .i64 (fa 6), .int .i64 (fa 7), .int .i64 a.lo, .int .i64 a.hi, .int .i64 a.f.t, .int .i64 a.f.v, .int .i64 a.f.s, .int .i64 a.l.t, .int .i64 a.l.v, .int .i64 a.l.s] _ Try.underlying40 rfl rfl (by kernel_rfl) (fun j _ => by simp)) rfl (rm_post HR.out (by rw [← HFA.out.1]) hS9.bel)
  have d4 : (b.n == 0) = false := by simp [h4]
  have hrest : mergeR a b = if ¬ S128 (a.s + b.s) ∨ 4611686018427387904 < a.n ∨ 4611686018427387904 - a.n < b.n then (zeroA, 3) else (mergeA a b, 0) := by
    unfold mergeR; rw [if_neg (by omega), if_neg (by omega), if_neg h3, if_neg h4]
  have HR := Lib.hid hrest
  have b1 : 0 < a.n := by omega
  have b2 : 0 < b.n := by omega
  have b3 : a.n ≤ 9223372036854775807 := HH.out.1.1.2
  have b4 : b.n ≤ 9223372036854775807 := HH.out.2.1.2
  clear h1 h2 h3 h4 hrest
  go_upto_region 9 with (fail)
  clear d1 d2 d3 d4 z0_0 z1_0
  have hl0 := @wpList_load_blk Try.prog _ _ _ _ (HW.out.get 0 rfl) 38 1 8 [.int .i64 (fa 0), .int .i64 (fa 1), .int .i64 (fa 2), .int .i64 (fa 3), .int .i64 (fa 4), .int .i64 (fa 5), .int .i64 (fa 6), .int .i64 (fa 7)] _ Try.underlying38 rfl rfl (by kernel_rfl) (fun j hj => by rcases (show j = 0 ∨ j = 1 ∨ j = 2 ∨ j = 3 ∨ j = 4 ∨ j = 5 ∨ j = 6 ∨ j = 7 by omega) with rfl | rfl | rfl | rfl | rfl | rfl | rfl | rfl <;> rfl)
  have hl1 := @wpList_load_blk Try.prog _ _ _ _ (HW.out.get 1 rfl) 38 1 8 [.int .i64 (fb 0), .int .i64 (fb 1), .int .i64 (fb 2), .int .i64 (fb 3), .int .i64 (fb 4), .int .i64 (fb 5), .int .i64 (fb 6), .int .i64 (fb 7)] _ Try.underlying38 rfl rfl (by kernel_rfl) (fun j hj => by rcases (show j = 0 ∨ j = 1 ∨ j = 2 ∨ j = 3 ∨ j = 4 ∨ j = 5 ∨ j = 6 ∨ j = 7 by omega) with rfl | rfl | rfl | rfl | rfl | rfl | rfl | rfl <;> rfl)
  go_wp2_with (first | (refine hl0 rfl _ rfl rfl ?_) | (refine hl1 rfl _ rfl rfl ?_))
  clear hl0 hl1
  refine (HADD.out _).mono ?_
  rintro e w1 ⟨hcase, hb1⟩
  obtain ⟨y, hy⟩ : ∃ y, y = w1.heap.size := ⟨_, rfl⟩
  have o1 := HW.out.call hb1
  rcases hcase with ⟨hfit, rfl⟩ | ⟨hfit, rfl⟩
  · generalize hfs : lim (a.s + b.s) = fs
    have HFS := Lib.hid hfs
    clear hfs
    have o2 := o1.alloc hy 38 #[.int .i64 (fs 0), .int .i64 (fs 1), .int .i64 (fs 2), .int .i64 (fs 3), .int .i64 (fs 4), .int .i64 (fs 5), .int .i64 (fs 6), .int .i64 (fs 7)]
    have HS := Lib.hid (And.intro hfit (And.intro hy o2))
    clear hfit hy o1 o2 hb1
    go_upto_region 10 with (fail)
    rw [← HS.out.2.1]
    have hS := HS.out.2.2
    generalize w1.alloc _ = w2 at hS ⊢
    generalize Value.tuple #[Value.agg #[.int .i64 (fs 0), .int .i64 (fs 1), .int .i64 (fs 2), .int .i64 (fs 3), .int .i64 (fs 4), .int .i64 (fs 5), .int .i64 (fs 6), .int .i64 (fs 7)], Value.bool true] = V2
    generalize Value.agg #[.int .i64 (fs 0), .int .i64 (fs 1), .int .i64 (fs 2), .int .i64 (fs 3), .int .i64 (fs 4), .int .i64 (fs 5), .int .i64 (fs 6), .int .i64 (fs 7)] = V3
    obtain ⟨s, hs⟩ : ∃ s, s = a.s + b.s := ⟨_, rfl⟩
    have HSS := Lib.hid hs
    clear hs
    have HT0 := hS.front 2 rfl
    by_cases h5 : 4611686018427387904 < a.n
    · have HZ := Lib.hid (show mergeR a b = (zeroA, 3) by rw [HR.out, if_pos (.inr (.inl h5))])
      have d5 : decide (4611686018427387904 < a.n) = true := by simp [h5]
      have HT := Lib.hid hS
      have z0_0 := hS.cell 0 0 rfl rfl
      have hst := @wpList_store_blk Try.prog _ _ _ _ (hS.get 2 rfl) 40 0 17 [.int .i64 0, .int .i64 0, .int .i64 0, .int .i64 0, .int .i64 0, .int .i64 0, .int .i64 0, .int .i64 0, .int .i64 0, .int .i64 0, .int .i64 0, .int .i64 0, .int .i64 0, .int .i64 0, .int .i64 0, .int .i64 0, .int .i64 0] rfl (by decide) (by kernel_rfl) (List.all_eq_true.1 rfl)
      clear hS HT0
      go_wp2_with (refine hst rfl _ _ rfl rfl rfl ?_)
      refine bodyPost_gen (Own w [(x + 1 + 1, 40, #[.int .i64 0, .int .i64 0, .int .i64 0, .int .i64 0, .int .i64 0, .int .i64 0, .int .i64 0, .int .i64 0, .int .i64 0, .int .i64 0, .int .i64 0, .int .i64 0, .int .i64 0, .int .i64 0, .int .i64 0, .int .i64 0, .int .i64 0]), (x, 40, #[.int .i64 a.n, .int .i64 (fa 0), .int .i64 (fa 1), .int .i64 (fa 2), .int .i64 (fa 3), .int .i64 (fa 4), .int .i64 (fa 5), .int .i64 (fa 6), .int .i64 (fa 7), .int .i64 a.lo, .int .i64 a.hi, .int .i64 a.f.t, .int .i64 a.f.v, .int .i64 a.f.s, .int .i64 a.l.t, .int .i64 a.l.v, .int .i64 a.l.s]), (x + 1, 40, #[.int .i64 b.n, .int .i64 (fb 0), .int .i64 (fb 1), .int .i64 (fb 2), .int .i64 (fb 3), .int .i64 (fb 4), .int .i64 (fb 5), .int .i64 (fb 6), .int .i64 (fb 7), .int .i64 b.lo, .int .i64 b.hi, .int .i64 b.f.t, .int .i64 b.f.v, .int .i64 b.f.s, .int .i64 b.l.t, .int .i64 b.l.v, .int .i64 b.l.s]), (y, 38, #[.int .i64 (fs 0), .int .i64 (fs 1), .int .i64 (fs 2), .int .i64 (fs 3), .int .i64 (fs 4), .int .i64 (fs 5), .int .i64 (fs 6), .int .i64 (fs 7)])]) ((OwnR.of (n := 17) (HT.out.front 2 rfl) rfl).put [.int .i64 0, .int .i64 0, .int .i64 0, .int .i64 0, .int .i64 0, .int .i64 0, .int .i64 0, .int .i64 0, .int .i64 0, .int .i64 0, .int .i64 0, .int .i64 0, .int .i64 0, .int .i64 0, .int .i64 0, .int .i64 0, .int .i64 0] rfl) ?_
      intro w9 hS9
      exact bodyPost_ret (v := .tuple #[.agg #[.int .i64 0, .int .i64 0, .int .i64 0, .int .i64 0, .int .i64 0, .int .i64 0, .int .i64 0, .int .i64 0, .int .i64 0, .int .i64 0, .int .i64 0, .int .i64 0, .int .i64 0, .int .i64 0, .int .i64 0, .int .i64 0, .int .i64 0], .int .i64 3]) (results_blk2 (P := Try.prog) Try.results11 rfl (hS9.get 0 rfl) 17 [.int .i64 0, .int .i64 0, .int .i64 0, .int .i64 0, .int .i64 0, .int .i64 0, .int .i64 0, .int .i64 0, .int .i64 0, .int .i64 0, .int .i64 0, .int .i64 0, .int .i64 0, .int .i64 0, .int .i64 0, .int .i64 0, .int .i64 0] _ Try.underlying40 rfl rfl (by kernel_rfl) (fun j _ => by simp)) rfl (rm_post HZ.out (by rw [rz]) hS9.bel)
    have d5 : decide (4611686018427387904 < a.n) = false := by simp; omega
    by_cases h6 : 4611686018427387904 - a.n < b.n
    · have HZ := Lib.hid (show mergeR a b = (zeroA, 3) by rw [HR.out, if_pos (.inr (.inr h6))])
      have d6 : decide (4611686018427387904 - a.n < b.n) = true := by simp [h6]
      have HT := Lib.hid hS
      have z0_0 := hS.cell 0 0 rfl rfl
      have z1_0 := hS.cell 1 0 rfl rfl
      have hst := @wpList_store_blk Try.prog _ _ _ _ (hS.get 2 rfl) 40 0 17 [.int .i64 0, .int .i64 0, .int .i64 0, .int .i64 0, .int .i64 0, .int .i64 0, .int .i64 0, .int .i64 0, .int .i64 0, .int .i64 0, .int .i64 0, .int .i64 0, .int .i64 0, .int .i64 0, .int .i64 0, .int .i64 0, .int .i64 0] rfl (by decide) (by kernel_rfl) (List.all_eq_true.1 rfl)
      clear hS HT0
      go_wp2_with (refine hst rfl _ _ rfl rfl rfl ?_)
      refine bodyPost_gen (Own w [(x + 1 + 1, 40, #[.int .i64 0, .int .i64 0, .int .i64 0, .int .i64 0, .int .i64 0, .int .i64 0, .int .i64 0, .int .i64 0, .int .i64 0, .int .i64 0, .int .i64 0, .int .i64 0, .int .i64 0, .int .i64 0, .int .i64 0, .int .i64 0, .int .i64 0]), (x, 40, #[.int .i64 a.n, .int .i64 (fa 0), .int .i64 (fa 1), .int .i64 (fa 2), .int .i64 (fa 3), .int .i64 (fa 4), .int .i64 (fa 5), .int .i64 (fa 6), .int .i64 (fa 7), .int .i64 a.lo, .int .i64 a.hi, .int .i64 a.f.t, .int .i64 a.f.v, .int .i64 a.f.s, .int .i64 a.l.t, .int .i64 a.l.v, .int .i64 a.l.s]), (x + 1, 40, #[.int .i64 b.n, .int .i64 (fb 0), .int .i64 (fb 1), .int .i64 (fb 2), .int .i64 (fb 3), .int .i64 (fb 4), .int .i64 (fb 5), .int .i64 (fb 6), .int .i64 (fb 7), .int .i64 b.lo, .int .i64 b.hi, .int .i64 b.f.t, .int .i64 b.f.v, .int .i64 b.f.s, .int .i64 b.l.t, .int .i64 b.l.v, .int .i64 b.l.s]), (y, 38, #[.int .i64 (fs 0), .int .i64 (fs 1), .int .i64 (fs 2), .int .i64 (fs 3), .int .i64 (fs 4), .int .i64 (fs 5), .int .i64 (fs 6), .int .i64 (fs 7)])]) ((OwnR.of (n := 17) (HT.out.front 2 rfl) rfl).put [.int .i64 0, .int .i64 0, .int .i64 0, .int .i64 0, .int .i64 0, .int .i64 0, .int .i64 0, .int .i64 0, .int .i64 0, .int .i64 0, .int .i64 0, .int .i64 0, .int .i64 0, .int .i64 0, .int .i64 0, .int .i64 0, .int .i64 0] rfl) ?_
      intro w9 hS9
      exact bodyPost_ret (v := .tuple #[.agg #[.int .i64 0, .int .i64 0, .int .i64 0, .int .i64 0, .int .i64 0, .int .i64 0, .int .i64 0, .int .i64 0, .int .i64 0, .int .i64 0, .int .i64 0, .int .i64 0, .int .i64 0, .int .i64 0, .int .i64 0, .int .i64 0, .int .i64 0], .int .i64 3]) (results_blk2 (P := Try.prog) Try.results11 rfl (hS9.get 0 rfl) 17 [.int .i64 0, .int .i64 0, .int .i64 0, .int .i64 0, .int .i64 0, .int .i64 0, .int .i64 0, .int .i64 0, .int .i64 0, .int .i64 0, .int .i64 0, .int .i64 0, .int .i64 0, .int .i64 0, .int .i64 0, .int .i64 0, .int .i64 0] _ Try.underlying40 rfl rfl (by kernel_rfl) (fun j _ => by simp)) rfl (rm_post HZ.out (by rw [rz]) hS9.bel)
    have d6 : decide (4611686018427387904 - a.n < b.n) = false := by simp; omega
    have HZ := Lib.hid (show mergeR a b = (mergeA a b, 0) by rw [HR.out, if_neg (by have := HS.out.1; rintro (h | h | h) <;> first | exact h this | omega)])
    obtain ⟨n, hn⟩ : ∃ n, n = a.n + b.n := ⟨_, rfl⟩
    have en : a.n + b.n = n := hn.symm
    have HNN := Lib.hid hn
    have hs := Own.putN [.int .i64 n] 0 _ _ [.int .i64 n, .int .i64 (fa 0), .int .i64 (fa 1), .int .i64 (fa 2), .int .i64 (fa 3), .int .i64 (fa 4), .int .i64 (fa 5), .int .i64 (fa 6), .int .i64 (fa 7), .int .i64 a.lo, .int .i64 a.hi, .int .i64 a.f.t, .int .i64 a.f.v, .int .i64 a.f.s, .int .i64 a.l.t, .int .i64 a.l.v, .int .i64 a.l.s] hS (Nat.le_of_ble_eq_true rfl) rfl
    have z0_0 := hS.cell 0 0 rfl rfl
    have z1_0 := hS.cell 1 0 rfl rfl
    have zf0 := hS.free 0 rfl
    have HT := Lib.hid hs
    clear hS hs HT0 hn
    go_upto_region 13 with (fail)
    refine wp_gen (Own w [(x, 40, #[.int .i64 n, .int .i64 (fa 0), .int .i64 (fa 1), .int .i64 (fa 2), .int .i64 (fa 3), .int .i64 (fa 4), .int .i64 (fa 5), .int .i64 (fa 6), .int .i64 (fa 7), .int .i64 a.lo, .int .i64 a.hi, .int .i64 a.f.t, .int .i64 a.f.v, .int .i64 a.f.s, .int .i64 a.l.t, .int .i64 a.l.v, .int .i64 a.l.s]), (x + 1, 40, #[.int .i64 b.n, .int .i64 (fb 0), .int .i64 (fb 1), .int .i64 (fb 2), .int .i64 (fb 3), .int .i64 (fb 4), .int .i64 (fb 5), .int .i64 (fb 6), .int .i64 (fb 7), .int .i64 b.lo, .int .i64 b.hi, .int .i64 b.f.t, .int .i64 b.f.v, .int .i64 b.f.s, .int .i64 b.l.t, .int .i64 b.l.v, .int .i64 b.l.s]), (x + 1 + 1, 40, #[.int .i64 0, .int .i64 0, .int .i64 0, .int .i64 0, .int .i64 0, .int .i64 0, .int .i64 0, .int .i64 0, .int .i64 0, .int .i64 0, .int .i64 0, .int .i64 0, .int .i64 0, .int .i64 0, .int .i64 0, .int .i64 0, .int .i64 0]), (y, 38, #[.int .i64 (fs 0), .int .i64 (fs 1), .int .i64 (fs 2), .int .i64 (fs 3), .int .i64 (fs 4), .int .i64 (fs 5), .int .i64 (fs 6), .int .i64 (fs 7)])]) HT.out ?_
    clear HT z0_0 z1_0 zf0
    intro w3 hS
    have hl3 := @wpList_load_blk Try.prog _ _ _ _ (hS.get 3 rfl) 38 0 8 [.int .i64 (fs 0), .int .i64 (fs 1), .int .i64 (fs 2), .int .i64 (fs 3), .int .i64 (fs 4), .int .i64 (fs 5), .int .i64 (fs 6), .int .i64 (fs 7)] _ Try.underlying38 rfl rfl (by kernel_rfl) (fun j hj => by rcases (show j = 0 ∨ j = 1 ∨ j = 2 ∨ j = 3 ∨ j = 4 ∨ j = 5 ∨ j = 6 ∨ j = 7 by omega) with rfl | rfl | rfl | rfl | rfl | rfl | rfl | rfl <;> rfl)
    have hs8 := @wpList_store_blk Try.prog _ _ _ _ (hS.get 0 rfl) 38 1 8 [.int .i64 (fs 0), .int .i64 (fs 1), .int .i64 (fs 2), .int .i64 (fs 3), .int .i64 (fs 4), .int .i64 (fs 5), .int .i64 (fs 6), .int .i64 (fs 7)] rfl (Nat.le_of_ble_eq_true rfl) (by kernel_rfl) (List.all_eq_true.1 rfl)
    have HT := Lib.hid (Own.putN [.int .i64 (fs 0), .int .i64 (fs 1), .int .i64 (fs 2), .int .i64 (fs 3), .int .i64 (fs 4), .int .i64 (fs 5), .int .i64 (fs 6), .int .i64 (fs 7)] 1 _ _ [.int .i64 (Ag.mk n s a.lo a.hi a.f a.l).n, .int .i64 (fs 0), .int .i64 (fs 1), .int .i64 (fs 2), .int .i64 (fs 3), .int .i64 (fs 4), .int .i64 (fs 5), .int .i64 (fs 6), .int .i64 (fs 7), .int .i64 (Ag.mk n s a.lo a.hi a.f a.l).lo, .int .i64 (Ag.mk n s a.lo a.hi a.f a.l).hi, .int .i64 (Ag.mk n s a.lo a.hi a.f a.l).f.t, .int .i64 (Ag.mk n s a.lo a.hi a.f a.l).f.v, .int .i64 (Ag.mk n s a.lo a.hi a.f a.l).f.s, .int .i64 (Ag.mk n s a.lo a.hi a.f a.l).l.t, .int .i64 (Ag.mk n s a.lo a.hi a.f a.l).l.v, .int .i64 (Ag.mk n s a.lo a.hi a.f a.l).l.s] hS (Nat.le_of_ble_eq_true rfl) rfl)
    clear hS
    go_upto_region 14 with (first | (refine hs8 rfl _ _ rfl rfl rfl ?_) | (refine hl3 rfl _ rfl rfl ?_))
    refine wp_gen (Own w [(x, 40, #[.int .i64 (Ag.mk n s a.lo a.hi a.f a.l).n, .int .i64 (fs 0), .int .i64 (fs 1), .int .i64 (fs 2), .int .i64 (fs 3), .int .i64 (fs 4), .int .i64 (fs 5), .int .i64 (fs 6), .int .i64 (fs 7), .int .i64 (Ag.mk n s a.lo a.hi a.f a.l).lo, .int .i64 (Ag.mk n s a.lo a.hi a.f a.l).hi, .int .i64 (Ag.mk n s a.lo a.hi a.f a.l).f.t, .int .i64 (Ag.mk n s a.lo a.hi a.f a.l).f.v, .int .i64 (Ag.mk n s a.lo a.hi a.f a.l).f.s, .int .i64 (Ag.mk n s a.lo a.hi a.f a.l).l.t, .int .i64 (Ag.mk n s a.lo a.hi a.f a.l).l.v, .int .i64 (Ag.mk n s a.lo a.hi a.f a.l).l.s]), (x + 1, 40, #[.int .i64 b.n, .int .i64 (fb 0), .int .i64 (fb 1), .int .i64 (fb 2), .int .i64 (fb 3), .int .i64 (fb 4), .int .i64 (fb 5), .int .i64 (fb 6), .int .i64 (fb 7), .int .i64 b.lo, .int .i64 b.hi, .int .i64 b.f.t, .int .i64 b.f.v, .int .i64 b.f.s, .int .i64 b.l.t, .int .i64 b.l.v, .int .i64 b.l.s]), (x + 1 + 1, 40, #[.int .i64 0, .int .i64 0, .int .i64 0, .int .i64 0, .int .i64 0, .int .i64 0, .int .i64 0, .int .i64 0, .int .i64 0, .int .i64 0, .int .i64 0, .int .i64 0, .int .i64 0, .int .i64 0, .int .i64 0, .int .i64 0, .int .i64 0]), (y, 38, #[.int .i64 (fs 0), .int .i64 (fs 1), .int .i64 (fs 2), .int .i64 (fs 3), .int .i64 (fs 4), .int .i64 (fs 5), .int .i64 (fs 6), .int .i64 (fs 7)])]) HT.out ?_
    clear HT hl3 hs8
    intro w4 hS
    obtain ⟨c1, hc1⟩ : ∃ c1 : Ag, c1 = Ag.mk n s a.lo a.hi a.f a.l := ⟨_, rfl⟩
    rw [← hc1] at hS
    clear d5 d6 en b1 b2 b3 b4 h5 h6
    have HC1 := Lib.hid hc1
    clear hc1
    have z0_9 := hS.cell 0 9 rfl rfl
    have z1_9 := hS.cell 1 9 rfl rfl
    have zf0 := hS.free 0 rfl
    have HA := Lib.hid hS
    clear hS
    go_upto_if 70 with (fail)
    obtain ⟨c2, hc2⟩ : ∃ c2 : Ag, c2 = { c1 with lo := if b.lo < c1.lo then b.lo else c1.lo } := ⟨_, rfl⟩
    have HC2 := Lib.hid hc2
    clear hc2
    go_cut [5] (fun s5 wx => s5 = .int .i64 0 ∧ Own w [(x, 40, #[.int .i64 c2.n, .int .i64 (fs 0), .int .i64 (fs 1), .int .i64 (fs 2), .int .i64 (fs 3), .int .i64 (fs 4), .int .i64 (fs 5), .int .i64 (fs 6), .int .i64 (fs 7), .int .i64 c2.lo, .int .i64 c2.hi, .int .i64 c2.f.t, .int .i64 c2.f.v, .int .i64 c2.f.s, .int .i64 c2.l.t, .int .i64 c2.l.v, .int .i64 c2.l.s]), (x + 1, 40, #[.int .i64 b.n, .int .i64 (fb 0), .int .i64 (fb 1), .int .i64 (fb 2), .int .i64 (fb 3), .int .i64 (fb 4), .int .i64 (fb 5), .int .i64 (fb 6), .int .i64 (fb 7), .int .i64 b.lo, .int .i64 b.hi, .int .i64 b.f.t, .int .i64 b.f.v, .int .i64 b.f.s, .int .i64 b.l.t, .int .i64 b.l.v, .int .i64 b.l.s]), (x + 1 + 1, 40, #[.int .i64 0, .int .i64 0, .int .i64 0, .int .i64 0, .int .i64 0, .int .i64 0, .int .i64 0, .int .i64 0, .int .i64 0, .int .i64 0, .int .i64 0, .int .i64 0, .int .i64 0, .int .i64 0, .int .i64 0, .int .i64 0, .int .i64 0]), (y, 38, #[.int .i64 (fs 0), .int .i64 (fs 1), .int .i64 (fs 2), .int .i64 (fs 3), .int .i64 (fs 4), .int .i64 (fs 5), .int .i64 (fs 6), .int .i64 (fs 7)])] wx)
    case first =>
      by_cases h : b.lo < c1.lo
      · have d : decide (b.lo < c1.lo) = true := by simp [h]
        go_wp2_with fail
        go_meet
        refine ⟨rfl, ?_⟩
        rw [HC2.out, if_pos h]
        exact Own.putN [_] 9 _ _ _ HA.out (Nat.le_of_ble_eq_true rfl) rfl
      · have d : decide (b.lo < c1.lo) = false := by simp [h]
        go_wp2_with fail
        go_meet
        refine ⟨rfl, ?_⟩
        rw [HC2.out, if_neg (by omega)]
        exact HA.out
    case rest =>
      obtain ⟨rfl, hS⟩ := hcut
      clear z0_9 z1_9 zf0 HA
      have z0_10 := hS.cell 0 10 rfl rfl
      have z1_10 := hS.cell 1 10 rfl rfl
      have zf0 := hS.free 0 rfl
      have HA := Lib.hid hS
      clear hS
      go_upto_if 78 with (fail)
      obtain ⟨c3, hc3⟩ : ∃ c3 : Ag, c3 = { c2 with hi := if c2.hi < b.hi then b.hi else c2.hi } := ⟨_, rfl⟩
      have HC3 := Lib.hid hc3
      clear hc3
      go_cut [5] (fun s5 wx => s5 = .int .i64 0 ∧ Own w [(x, 40, #[.int .i64 c3.n, .int .i64 (fs 0), .int .i64 (fs 1), .int .i64 (fs 2), .int .i64 (fs 3), .int .i64 (fs 4), .int .i64 (fs 5), .int .i64 (fs 6), .int .i64 (fs 7), .int .i64 c3.lo, .int .i64 c3.hi, .int .i64 c3.f.t, .int .i64 c3.f.v, .int .i64 c3.f.s, .int .i64 c3.l.t, .int .i64 c3.l.v, .int .i64 c3.l.s]), (x + 1, 40, #[.int .i64 b.n, .int .i64 (fb 0), .int .i64 (fb 1), .int .i64 (fb 2), .int .i64 (fb 3), .int .i64 (fb 4), .int .i64 (fb 5), .int .i64 (fb 6), .int .i64 (fb 7), .int .i64 b.lo, .int .i64 b.hi, .int .i64 b.f.t, .int .i64 b.f.v, .int .i64 b.f.s, .int .i64 b.l.t, .int .i64 b.l.v, .int .i64 b.l.s]), (x + 1 + 1, 40, #[.int .i64 0, .int .i64 0, .int .i64 0, .int .i64 0, .int .i64 0, .int .i64 0, .int .i64 0, .int .i64 0, .int .i64 0, .int .i64 0, .int .i64 0, .int .i64 0, .int .i64 0, .int .i64 0, .int .i64 0, .int .i64 0, .int .i64 0]), (y, 38, #[.int .i64 (fs 0), .int .i64 (fs 1), .int .i64 (fs 2), .int .i64 (fs 3), .int .i64 (fs 4), .int .i64 (fs 5), .int .i64 (fs 6), .int .i64 (fs 7)])] wx)
      case first =>
        by_cases h : c2.hi < b.hi
        · have d : decide (c2.hi < b.hi) = true := by simp [h]
          go_wp2_with fail
          go_meet
          refine ⟨rfl, ?_⟩
          rw [HC3.out, if_pos h]
          exact Own.putN [_] 10 _ _ _ HA.out (Nat.le_of_ble_eq_true rfl) rfl
        · have d : decide (c2.hi < b.hi) = false := by simp [h]
          go_wp2_with fail
          go_meet
          refine ⟨rfl, ?_⟩
          rw [HC3.out, if_neg (by omega)]
          exact HA.out
      case rest =>
        obtain ⟨rfl, hS⟩ := hcut
        clear z0_10 z1_10 zf0 HA
        have z0_11 := hS.cell 0 11 rfl rfl
        have z0_12 := hS.cell 0 12 rfl rfl
        have z0_13 := hS.cell 0 13 rfl rfl
        have z1_11 := hS.cell 1 11 rfl rfl
        have z1_12 := hS.cell 1 12 rfl rfl
        have z1_13 := hS.cell 1 13 rfl rfl
        have HA := Lib.hid hS
        clear hS
        go_wp2_with fail
        refine (ahead_any b.f c3.f _).mono ?_
        rintro e w5 ⟨rfl, hb5⟩
        have hS := HA.out.call hb5
        clear z0_11 z0_12 z0_13 z1_11 z1_12 z1_13 HA hb5
        have z0_11 := hS.cell 0 11 rfl rfl
        have z0_12 := hS.cell 0 12 rfl rfl
        have z0_13 := hS.cell 0 13 rfl rfl
        have z1_11 := hS.cell 1 11 rfl rfl
        have z1_12 := hS.cell 1 12 rfl rfl
        have z1_13 := hS.cell 1 13 rfl rfl
        have zf0 := hS.free 0 rfl
        have HA := Lib.hid hS
        clear hS
        go_upto_if 86 with (fail)
        obtain ⟨c4, hc4⟩ : ∃ c4 : Ag, c4 = { c3 with f := if ltP b.f c3.f then b.f else c3.f } := ⟨_, rfl⟩
        have HC4 := Lib.hid hc4
        clear hc4
        go_cut [5] (fun s5 wx => s5 = .int .i64 0 ∧ Own w [(x, 40, #[.int .i64 c4.n, .int .i64 (fs 0), .int .i64 (fs 1), .int .i64 (fs 2), .int .i64 (fs 3), .int .i64 (fs 4), .int .i64 (fs 5), .int .i64 (fs 6), .int .i64 (fs 7), .int .i64 c4.lo, .int .i64 c4.hi, .int .i64 c4.f.t, .int .i64 c4.f.v, .int .i64 c4.f.s, .int .i64 c4.l.t, .int .i64 c4.l.v, .int .i64 c4.l.s]), (x + 1, 40, #[.int .i64 b.n, .int .i64 (fb 0), .int .i64 (fb 1), .int .i64 (fb 2), .int .i64 (fb 3), .int .i64 (fb 4), .int .i64 (fb 5), .int .i64 (fb 6), .int .i64 (fb 7), .int .i64 b.lo, .int .i64 b.hi, .int .i64 b.f.t, .int .i64 b.f.v, .int .i64 b.f.s, .int .i64 b.l.t, .int .i64 b.l.v, .int .i64 b.l.s]), (x + 1 + 1, 40, #[.int .i64 0, .int .i64 0, .int .i64 0, .int .i64 0, .int .i64 0, .int .i64 0, .int .i64 0, .int .i64 0, .int .i64 0, .int .i64 0, .int .i64 0, .int .i64 0, .int .i64 0, .int .i64 0, .int .i64 0, .int .i64 0, .int .i64 0]), (y, 38, #[.int .i64 (fs 0), .int .i64 (fs 1), .int .i64 (fs 2), .int .i64 (fs 3), .int .i64 (fs 4), .int .i64 (fs 5), .int .i64 (fs 6), .int .i64 (fs 7)])] wx)
        case first =>
          by_cases h : ltP b.f c3.f
          · have d : decide (ltP b.f c3.f) = true := by simp [h]
            rw [d]
            go_wp2_with fail
            go_meet
            refine ⟨rfl, ?_⟩
            rw [HC4.out, if_pos h]
            exact Own.putN [_, _, _] 11 _ _ _ HA.out (Nat.le_of_ble_eq_true rfl) rfl
          · have d : decide (ltP b.f c3.f) = false := by simp [h]
            rw [d]
            go_wp2_with fail
            go_meet
            refine ⟨rfl, ?_⟩
            rw [HC4.out, if_neg h]
            exact HA.out
        case rest =>
          obtain ⟨rfl, hS⟩ := hcut
          clear z0_11 z0_12 z0_13 z1_11 z1_12 z1_13 HA zf0
          have z0_14 := hS.cell 0 14 rfl rfl
          have z0_15 := hS.cell 0 15 rfl rfl
          have z0_16 := hS.cell 0 16 rfl rfl
          have z1_14 := hS.cell 1 14 rfl rfl
          have z1_15 := hS.cell 1 15 rfl rfl
          have z1_16 := hS.cell 1 16 rfl rfl
          have HA := Lib.hid hS
          clear hS
          go_wp2_with fail
          refine (ahead_any c4.l b.l _).mono ?_
          rintro e w6 ⟨rfl, hb6⟩
          have hS := HA.out.call hb6
          clear z0_14 z0_15 z0_16 z1_14 z1_15 z1_16 HA hb6
          have z0_14 := hS.cell 0 14 rfl rfl
          have z0_15 := hS.cell 0 15 rfl rfl
          have z0_16 := hS.cell 0 16 rfl rfl
          have z1_14 := hS.cell 1 14 rfl rfl
          have z1_15 := hS.cell 1 15 rfl rfl
          have z1_16 := hS.cell 1 16 rfl rfl
          have zf0 := hS.free 0 rfl
          have HA := Lib.hid hS
          clear hS
          go_upto_if 94 with (fail)
          obtain ⟨c5, hc5⟩ : ∃ c5 : Ag, c5 = { c4 with l := if ltP c4.l b.l then b.l else c4.l } := ⟨_, rfl⟩
          have HC5 := Lib.hid hc5
          clear hc5
          go_cut [5] (fun s5 wx => s5 = .int .i64 0 ∧ Own w [(x, 40, #[.int .i64 c5.n, .int .i64 (fs 0), .int .i64 (fs 1), .int .i64 (fs 2), .int .i64 (fs 3), .int .i64 (fs 4), .int .i64 (fs 5), .int .i64 (fs 6), .int .i64 (fs 7), .int .i64 c5.lo, .int .i64 c5.hi, .int .i64 c5.f.t, .int .i64 c5.f.v, .int .i64 c5.f.s, .int .i64 c5.l.t, .int .i64 c5.l.v, .int .i64 c5.l.s]), (x + 1, 40, #[.int .i64 b.n, .int .i64 (fb 0), .int .i64 (fb 1), .int .i64 (fb 2), .int .i64 (fb 3), .int .i64 (fb 4), .int .i64 (fb 5), .int .i64 (fb 6), .int .i64 (fb 7), .int .i64 b.lo, .int .i64 b.hi, .int .i64 b.f.t, .int .i64 b.f.v, .int .i64 b.f.s, .int .i64 b.l.t, .int .i64 b.l.v, .int .i64 b.l.s]), (x + 1 + 1, 40, #[.int .i64 0, .int .i64 0, .int .i64 0, .int .i64 0, .int .i64 0, .int .i64 0, .int .i64 0, .int .i64 0, .int .i64 0, .int .i64 0, .int .i64 0, .int .i64 0, .int .i64 0, .int .i64 0, .int .i64 0, .int .i64 0, .int .i64 0]), (y, 38, #[.int .i64 (fs 0), .int .i64 (fs 1), .int .i64 (fs 2), .int .i64 (fs 3), .int .i64 (fs 4), .int .i64 (fs 5), .int .i64 (fs 6), .int .i64 (fs 7)])] wx)
          case first =>
            by_cases h : ltP c4.l b.l
            · have d : decide (ltP c4.l b.l) = true := by simp [h]
              rw [d]
              go_wp2_with fail
              go_meet
              refine ⟨rfl, ?_⟩
              rw [HC5.out, if_pos h]
              exact Own.putN [_, _, _] 14 _ _ _ HA.out (Nat.le_of_ble_eq_true rfl) rfl
            · have d : decide (ltP c4.l b.l) = false := by simp [h]
              rw [d]
              go_wp2_with fail
              go_meet
              refine ⟨rfl, ?_⟩
              rw [HC5.out, if_neg h]
              exact HA.out
          case rest =>
            obtain ⟨rfl, hS⟩ := hcut
            clear z0_14 z0_15 z0_16 z1_14 z1_15 z1_16 HA zf0
            have HF := Lib.hid (show mergeR a b = (c5, 0) by
              rw [HZ.out, HC5.out, HC4.out, HC3.out, HC2.out, HC1.out, HNN.out, HSS.out]
              unfold mergeA
              congr 1
              congr 1
              · by_cases h : ltP b.f a.f
                · rw [if_pos h, if_pos ((ordI_lt _ _).2 h)]
                · rw [if_neg h, if_neg (fun k => h ((ordI_lt _ _).1 k))]
              · by_cases h : ltP a.l b.l
                · rw [if_pos h, if_pos ((ordI_gt _ _).2 h)]
                · rw [if_neg h, if_neg (fun k => h ((ordI_gt _ _).1 k))])
            have hld := @wpList_load_blk Try.prog _ _ _ _ (hS.get 0 rfl) 40 0 17 [.int .i64 c5.n, .int .i64 (fs 0), .int .i64 (fs 1), .int .i64 (fs 2), .int .i64 (fs 3), .int .i64 (fs 4), .int .i64 (fs 5), .int .i64 (fs 6), .int .i64 (fs 7), .int .i64 c5.lo, .int .i64 c5.hi, .int .i64 c5.f.t, .int .i64 c5.f.v, .int .i64 c5.f.s, .int .i64 c5.l.t, .int .i64 c5.l.v, .int .i64 c5.l.s] _ Try.underlying40 rfl rfl (by kernel_rfl) (fun j _ => by simp)
            have hst := @wpList_store_blk Try.prog _ _ _ _ (hS.get 2 rfl) 40 0 17 [.int .i64 c5.n, .int .i64 (fs 0), .int .i64 (fs 1), .int .i64 (fs 2), .int .i64 (fs 3), .int .i64 (fs 4), .int .i64 (fs 5), .int .i64 (fs 6), .int .i64 (fs 7), .int .i64 c5.lo, .int .i64 c5.hi, .int .i64 c5.f.t, .int .i64 c5.f.v, .int .i64 c5.f.s, .int .i64 c5.l.t, .int .i64 c5.l.v, .int .i64 c5.l.s] rfl (by decide) (by kernel_rfl) (List.all_eq_true.1 rfl)
            have HT := Lib.hid hS
            clear hS
            go_wp2_with (first | (refine hst rfl _ _ rfl rfl rfl ?_) | (refine hld rfl _ rfl rfl ?_))
            refine bodyPost_gen (Own w [(x + 1 + 1, 40, #[.int .i64 c5.n, .int .i64 (fs 0), .int .i64 (fs 1), .int .i64 (fs 2), .int .i64 (fs 3), .int .i64 (fs 4), .int .i64 (fs 5), .int .i64 (fs 6), .int .i64 (fs 7), .int .i64 c5.lo, .int .i64 c5.hi, .int .i64 c5.f.t, .int .i64 c5.f.v, .int .i64 c5.f.s, .int .i64 c5.l.t, .int .i64 c5.l.v, .int .i64 c5.l.s]), (x, 40, #[.int .i64 c5.n, .int .i64 (fs 0), .int .i64 (fs 1), .int .i64 (fs 2), .int .i64 (fs 3), .int .i64 (fs 4), .int .i64 (fs 5), .int .i64 (fs 6), .int .i64 (fs 7), .int .i64 c5.lo, .int .i64 c5.hi, .int .i64 c5.f.t, .int .i64 c5.f.v, .int .i64 c5.f.s, .int .i64 c5.l.t, .int .i64 c5.l.v, .int .i64 c5.l.s]), (x + 1, 40, #[.int .i64 b.n, .int .i64 (fb 0), .int .i64 (fb 1), .int .i64 (fb 2), .int .i64 (fb 3), .int .i64 (fb 4), .int .i64 (fb 5), .int .i64 (fb 6), .int .i64 (fb 7), .int .i64 b.lo, .int .i64 b.hi, .int .i64 b.f.t, .int .i64 b.f.v, .int .i64 b.f.s, .int .i64 b.l.t, .int .i64 b.l.v, .int .i64 b.l.s]), (y, 38, #[.int .i64 (fs 0), .int .i64 (fs 1), .int .i64 (fs 2), .int .i64 (fs 3), .int .i64 (fs 4), .int .i64 (fs 5), .int .i64 (fs 6), .int .i64 (fs 7)])]) ((OwnR.of (n := 17) (HT.out.front 2 rfl) rfl).put [.int .i64 c5.n, .int .i64 (fs 0), .int .i64 (fs 1), .int .i64 (fs 2), .int .i64 (fs 3), .int .i64 (fs 4), .int .i64 (fs 5), .int .i64 (fs 6), .int .i64 (fs 7), .int .i64 c5.lo, .int .i64 c5.hi, .int .i64 c5.f.t, .int .i64 c5.f.v, .int .i64 c5.f.s, .int .i64 c5.l.t, .int .i64 c5.l.v, .int .i64 c5.l.s] rfl) ?_
            intro w9 hS9
            exact bodyPost_ret (v := .tuple #[.agg #[.int .i64 c5.n, .int .i64 (fs 0), .int .i64 (fs 1), .int .i64 (fs 2), .int .i64 (fs 3), .int .i64 (fs 4), .int .i64 (fs 5), .int .i64 (fs 6), .int .i64 (fs 7), .int .i64 c5.lo, .int .i64 c5.hi, .int .i64 c5.f.t, .int .i64 c5.f.v, .int .i64 c5.f.s, .int .i64 c5.l.t, .int .i64 c5.l.v, .int .i64 c5.l.s], .int .i64 0]) (results_blk2 (P := Try.prog) Try.results11 rfl (hS9.get 0 rfl) 17 [.int .i64 c5.n, .int .i64 (fs 0), .int .i64 (fs 1), .int .i64 (fs 2), .int .i64 (fs 3), .int .i64 (fs 4), .int .i64 (fs 5), .int .i64 (fs 6), .int .i64 (fs 7), .int .i64 c5.lo, .int .i64 c5.hi, .int .i64 c5.f.t, .int .i64 c5.f.v, .int .i64 c5.f.s, .int .i64 c5.l.t, .int .i64 c5.l.v, .int .i64 c5.l.s] _ Try.underlying40 rfl rfl (by kernel_rfl) (fun j _ => by simp)) rfl (rm_post HF.out (by rw [show lim c5.s = fs by rw [HC5.out, HC4.out, HC3.out, HC2.out, HC1.out, HSS.out]; exact HFS.out]) hS9.bel)
  · have o2 := o1.alloc hy 38 #[.int .i64 0, .int .i64 0, .int .i64 0, .int .i64 0, .int .i64 0, .int .i64 0, .int .i64 0, .int .i64 0]
    have HZ := Lib.hid (show mergeR a b = (zeroA, 3) by rw [HR.out, if_pos (.inl hfit)])
    have HS := Lib.hid (And.intro hy o2)
    clear hfit hy o1 o2 hb1
    go_upto_region 10 with (fail)
    rw [← HS.out.1]
    have hS := HS.out.2
    generalize w1.alloc _ = w2 at hS ⊢
    have hst := @wpList_store_blk Try.prog _ _ _ _ (hS.get 2 rfl) 40 0 17 [.int .i64 0, .int .i64 0, .int .i64 0, .int .i64 0, .int .i64 0, .int .i64 0, .int .i64 0, .int .i64 0, .int .i64 0, .int .i64 0, .int .i64 0, .int .i64 0, .int .i64 0, .int .i64 0, .int .i64 0, .int .i64 0, .int .i64 0] rfl (by decide) (by kernel_rfl) (List.all_eq_true.1 rfl)
    have HT := Lib.hid hS
    clear hS
    go_wp2_with (refine hst rfl _ _ rfl rfl rfl ?_)
    refine bodyPost_gen (Own w [(x + 1 + 1, 40, #[.int .i64 0, .int .i64 0, .int .i64 0, .int .i64 0, .int .i64 0, .int .i64 0, .int .i64 0, .int .i64 0, .int .i64 0, .int .i64 0, .int .i64 0, .int .i64 0, .int .i64 0, .int .i64 0, .int .i64 0, .int .i64 0, .int .i64 0]), (x, 40, #[.int .i64 a.n, .int .i64 (fa 0), .int .i64 (fa 1), .int .i64 (fa 2), .int .i64 (fa 3), .int .i64 (fa 4), .int .i64 (fa 5), .int .i64 (fa 6), .int .i64 (fa 7), .int .i64 a.lo, .int .i64 a.hi, .int .i64 a.f.t, .int .i64 a.f.v, .int .i64 a.f.s, .int .i64 a.l.t, .int .i64 a.l.v, .int .i64 a.l.s]), (x + 1, 40, #[.int .i64 b.n, .int .i64 (fb 0), .int .i64 (fb 1), .int .i64 (fb 2), .int .i64 (fb 3), .int .i64 (fb 4), .int .i64 (fb 5), .int .i64 (fb 6), .int .i64 (fb 7), .int .i64 b.lo, .int .i64 b.hi, .int .i64 b.f.t, .int .i64 b.f.v, .int .i64 b.f.s, .int .i64 b.l.t, .int .i64 b.l.v, .int .i64 b.l.s]), (y, 38, #[.int .i64 0, .int .i64 0, .int .i64 0, .int .i64 0, .int .i64 0, .int .i64 0, .int .i64 0, .int .i64 0])]) ((OwnR.of (n := 17) (HT.out.front 2 rfl) rfl).put [.int .i64 0, .int .i64 0, .int .i64 0, .int .i64 0, .int .i64 0, .int .i64 0, .int .i64 0, .int .i64 0, .int .i64 0, .int .i64 0, .int .i64 0, .int .i64 0, .int .i64 0, .int .i64 0, .int .i64 0, .int .i64 0, .int .i64 0] rfl) ?_
    intro w9 hS9
    exact bodyPost_ret (v := .tuple #[.agg #[.int .i64 0, .int .i64 0, .int .i64 0, .int .i64 0, .int .i64 0, .int .i64 0, .int .i64 0, .int .i64 0, .int .i64 0, .int .i64 0, .int .i64 0, .int .i64 0, .int .i64 0, .int .i64 0, .int .i64 0, .int .i64 0, .int .i64 0], .int .i64 3]) (results_blk2 (P := Try.prog) Try.results11 rfl (hS9.get 0 rfl) 17 [.int .i64 0, .int .i64 0, .int .i64 0, .int .i64 0, .int .i64 0, .int .i64 0, .int .i64 0, .int .i64 0, .int .i64 0, .int .i64 0, .int .i64 0, .int .i64 0, .int .i64 0, .int .i64 0, .int .i64 0, .int .i64 0, .int .i64 0] _ Try.underlying40 rfl rfl (by kernel_rfl) (fun j _ => by simp)) rfl (rm_post HZ.out (by rw [rz]) hS9.bel)
end Go.Proofs.Ythhgnngpaagagaa
