/-
  The walk of the law AggrMerges. (Printed by genAggrMerges.py and mk.py.)
-/
import Derived.Test.YthhgnngpaagagaaLmF
import Derived.Test.YthhgnngpaagagaaLmI
import Derived.Test.YthhgnngpaagagaaLmV
import Derived.Test.YthhgnngpaagagaaPoints
import Derived.Deep.DeepCutAuto
import Derived.DeepKeys
namespace Go.Proofs.Ythhgnngpaagagaa
open Go.RowKit
set_option linter.unusedVariables false
set_option linter.unusedSimpArgs false
theorem lim_eq (f : Nat → Int) (w : World) : (Op.equalIn 9999 38 (.agg #[.int .i64 (f 0), .int .i64 (f 1), .int .i64 (f 2), .int .i64 (f 3), .int .i64 (f 4), .int .i64 (f 5), .int .i64 (f 6), .int .i64 (f 7)]) (.agg #[.int .i64 (f 0), .int .i64 (f 1), .int .i64 (f 2), .int .i64 (f 3), .int .i64 (f 4), .int .i64 (f 5), .int .i64 (f 6), .int .i64 (f 7)])).run Try.prog w = .ok true w := by
  obtain ⟨i, hi⟩ := info_of_underlying (P := Try.prog) Try.underlying3
  have hc : Try.prog.cellsOf 3 = 1 := by kernel_rfl
  rw [run_equalIn_array w 9998 _ _ Try.underlying38 hi, hc]
  simp [Op.eqItems, List.range, List.range.loop, go_sem]
theorem Own.drop1 {w0 w : World} {b : Nat × TypeId × Array Value} {L : List (Nat × TypeId × Array Value)} (h : Own w0 (b :: L) w) : Own w0 L w := h.sub (List.sublist_cons_self _ _)
theorem mergeR_ok {a b : Ag} (ha : AgOk a) (hb : AgOk b) : AgOk (mergeR a b).1 := by
  have hz : AgOk zeroA := by unfold AgOk zeroA I64 S128; simp
  unfold mergeR
  by_cases h1 : a.n < 0 ∨ b.n < 0
  · rw [if_pos h1]; exact hz
  rw [if_neg h1]
  by_cases h2 : a.n = 0 ∧ b.n = 0
  · rw [if_pos h2]; exact hz
  rw [if_neg h2]
  by_cases h3 : a.n = 0
  · rw [if_pos h3]; exact hb
  rw [if_neg h3]
  by_cases h4 : b.n = 0
  · rw [if_pos h4]; exact ha
  rw [if_neg h4]
  unfold AgOk I64 S128 at *
  split
  · unfold zeroA; simp
  · rename_i h5
    unfold mergeA
    refine ⟨?_, ?_, ?_, ?_⟩
    · simp only; omega
    · simp only; omega
    · simp only; (try split) <;> omega
    · simp only; (try split) <;> omega
set_option maxRecDepth 100000 in
set_option maxHeartbeats 20000000 in
theorem aggrMerges_walk (a b : Ag) (a0 : Option Addr) (len0 cap0 : Nat) (f0 : Nat → Pt) (w : World) (ha' : AgOk a ∧ PtOk a.f ∧ PtOk a.l) (hb' : AgOk b ∧ PtOk b.f ∧ PtOk b.l) (w0 : IsPoints w a0 len0 cap0 f0) :
    Calls Try.prog 5 #[.agg #[.int .i64 a.n, .int .i64 (hiOf a.s), .int .u64 (loOf a.s), .int .i64 a.lo, .int .i64 a.hi, .int .i64 a.f.t, .int .i64 a.f.v, .int .i64 a.f.s, .int .i64 a.l.t, .int .i64 a.l.v, .int .i64 a.l.s], .agg #[.int .i64 b.n, .int .i64 (hiOf b.s), .int .u64 (loOf b.s), .int .i64 b.lo, .int .i64 b.hi, .int .i64 b.f.t, .int .i64 b.f.v, .int .i64 b.f.s, .int .i64 b.l.t, .int .i64 b.l.v, .int .i64 b.l.s], .slice a0 len0 cap0] w fun e w' => e = .returned (.bool true) ∧ Below w.heap.size w w' := by
  have ha := ha'.1
  have hb := hb'.1
  clear ha' hb'
  obtain ⟨n, hn⟩ : ∃ n, n = min len0 100 := ⟨_, rfl⟩
  obtain ⟨g, hg, hsl⟩ := w0.cut n (by omega)
  have l1 := w0.le
  have l2 := w0.cap_le
  unfold maxLen at l2
  clear w0
  obtain ⟨r, hr⟩ : ∃ r, r = (mergeR a b).1 := ⟨_, rfl⟩
  obtain ⟨er, her⟩ : ∃ er, er = (mergeR a b).2 := ⟨_, rfl⟩
  have hro : AgOk r := by rw [hr]; exact mergeR_ok ha hb
  obtain ⟨z, hz⟩ : ∃ z, z = allA g n := ⟨_, rfl⟩
  have hzo : AgOk z := by rw [hz]; exact (allA_is g hg n (by omega)).ok (by omega)
  have hoa : ∀ w : World, Calls Try.prog 12 #[.agg #[.int .i64 a.n, .int .i64 (hiOf a.s), .int .u64 (loOf a.s), .int .i64 a.lo, .int .i64 a.hi, .int .i64 a.f.t, .int .i64 a.f.v, .int .i64 a.f.s, .int .i64 a.l.t, .int .i64 a.l.v, .int .i64 a.l.s]] w (fun e w' => e = .returned (.agg #[.int .i64 a.n, .int .i64 (lim (a.s) 0), .int .i64 (lim (a.s) 1), .int .i64 (lim (a.s) 2), .int .i64 (lim (a.s) 3), .int .i64 (lim (a.s) 4), .int .i64 (lim (a.s) 5), .int .i64 (lim (a.s) 6), .int .i64 (lim (a.s) 7), .int .i64 a.lo, .int .i64 a.hi, .int .i64 a.f.t, .int .i64 a.f.v, .int .i64 a.f.s, .int .i64 a.l.t, .int .i64 a.l.v, .int .i64 a.l.s]) ∧ Below w.heap.size w w') := fun w => own_any a ha w
  have hob : ∀ w : World, Calls Try.prog 12 #[.agg #[.int .i64 b.n, .int .i64 (hiOf b.s), .int .u64 (loOf b.s), .int .i64 b.lo, .int .i64 b.hi, .int .i64 b.f.t, .int .i64 b.f.v, .int .i64 b.f.s, .int .i64 b.l.t, .int .i64 b.l.v, .int .i64 b.l.s]] w (fun e w' => e = .returned (.agg #[.int .i64 b.n, .int .i64 (lim (b.s) 0), .int .i64 (lim (b.s) 1), .int .i64 (lim (b.s) 2), .int .i64 (lim (b.s) 3), .int .i64 (lim (b.s) 4), .int .i64 (lim (b.s) 5), .int .i64 (lim (b.s) 6), .int .i64 (lim (b.s) 7), .int .i64 b.lo, .int .i64 b.hi, .int .i64 b.f.t, .int .i64 b.f.v, .int .i64 b.f.s, .int .i64 b.l.t, .int .i64 b.l.v, .int .i64 b.l.s]) ∧ Below w.heap.size w w') := fun w => own_any b hb w
  have hor : ∀ w : World, Calls Try.prog 12 #[.agg #[.int .i64 r.n, .int .i64 (hiOf r.s), .int .u64 (loOf r.s), .int .i64 r.lo, .int .i64 r.hi, .int .i64 r.f.t, .int .i64 r.f.v, .int .i64 r.f.s, .int .i64 r.l.t, .int .i64 r.l.v, .int .i64 r.l.s]] w (fun e w' => e = .returned (.agg #[.int .i64 r.n, .int .i64 (lim (r.s) 0), .int .i64 (lim (r.s) 1), .int .i64 (lim (r.s) 2), .int .i64 (lim (r.s) 3), .int .i64 (lim (r.s) 4), .int .i64 (lim (r.s) 5), .int .i64 (lim (r.s) 6), .int .i64 (lim (r.s) 7), .int .i64 r.lo, .int .i64 r.hi, .int .i64 r.f.t, .int .i64 r.f.v, .int .i64 r.f.s, .int .i64 r.l.t, .int .i64 r.l.v, .int .i64 r.l.s]) ∧ Below w.heap.size w w') := fun w => own_any r hro w
  have hoz : ∀ w : World, Calls Try.prog 12 #[.agg #[.int .i64 z.n, .int .i64 (hiOf z.s), .int .u64 (loOf z.s), .int .i64 z.lo, .int .i64 z.hi, .int .i64 z.f.t, .int .i64 z.f.v, .int .i64 z.f.s, .int .i64 z.l.t, .int .i64 z.l.v, .int .i64 z.l.s]] w (fun e w' => e = .returned (.agg #[.int .i64 z.n, .int .i64 (lim (z.s) 0), .int .i64 (lim (z.s) 1), .int .i64 (lim (z.s) 2), .int .i64 (lim (z.s) 3), .int .i64 (lim (z.s) 4), .int .i64 (lim (z.s) 5), .int .i64 (lim (z.s) 6), .int .i64 (lim (z.s) 7), .int .i64 z.lo, .int .i64 z.hi, .int .i64 z.f.t, .int .i64 z.f.v, .int .i64 z.f.s, .int .i64 z.l.t, .int .i64 z.l.v, .int .i64 z.l.s]) ∧ Below w.heap.size w w') := fun w => own_any z hzo w
  have hrm : ∀ w : World, Calls Try.prog 11 #[.agg #[.int .i64 a.n, .int .i64 (lim (a.s) 0), .int .i64 (lim (a.s) 1), .int .i64 (lim (a.s) 2), .int .i64 (lim (a.s) 3), .int .i64 (lim (a.s) 4), .int .i64 (lim (a.s) 5), .int .i64 (lim (a.s) 6), .int .i64 (lim (a.s) 7), .int .i64 a.lo, .int .i64 a.hi, .int .i64 a.f.t, .int .i64 a.f.v, .int .i64 a.f.s, .int .i64 a.l.t, .int .i64 a.l.v, .int .i64 a.l.s], .agg #[.int .i64 b.n, .int .i64 (lim (b.s) 0), .int .i64 (lim (b.s) 1), .int .i64 (lim (b.s) 2), .int .i64 (lim (b.s) 3), .int .i64 (lim (b.s) 4), .int .i64 (lim (b.s) 5), .int .i64 (lim (b.s) 6), .int .i64 (lim (b.s) 7), .int .i64 b.lo, .int .i64 b.hi, .int .i64 b.f.t, .int .i64 b.f.v, .int .i64 b.f.s, .int .i64 b.l.t, .int .i64 b.l.v, .int .i64 b.l.s]] w (fun e w' => e = .returned (.tuple #[.agg #[.int .i64 r.n, .int .i64 (lim (r.s) 0), .int .i64 (lim (r.s) 1), .int .i64 (lim (r.s) 2), .int .i64 (lim (r.s) 3), .int .i64 (lim (r.s) 4), .int .i64 (lim (r.s) 5), .int .i64 (lim (r.s) 6), .int .i64 (lim (r.s) 7), .int .i64 r.lo, .int .i64 r.hi, .int .i64 r.f.t, .int .i64 r.f.v, .int .i64 r.f.s, .int .i64 r.l.t, .int .i64 r.l.v, .int .i64 r.l.s], .int .i64 er]) ∧ Below w.heap.size w w') := fun w => by
    refine (rmerge_any a b ha hb w).mono ?_
    rintro e w1 ⟨r', er', h, rfl, hb'⟩
    have h1 : r' = r := by rw [hr, h]
    have h2 : er' = er := by rw [her, h]
    subst h1 h2
    exact ⟨rfl, hb'⟩
  have hpm : ∀ w : World, Calls Try.prog 9 #[.agg #[.int .i64 a.n, .int .i64 (hiOf a.s), .int .u64 (loOf a.s), .int .i64 a.lo, .int .i64 a.hi, .int .i64 a.f.t, .int .i64 a.f.v, .int .i64 a.f.s, .int .i64 a.l.t, .int .i64 a.l.v, .int .i64 a.l.s], .agg #[.int .i64 b.n, .int .i64 (hiOf b.s), .int .u64 (loOf b.s), .int .i64 b.lo, .int .i64 b.hi, .int .i64 b.f.t, .int .i64 b.f.v, .int .i64 b.f.s, .int .i64 b.l.t, .int .i64 b.l.v, .int .i64 b.l.s]] w (fun e w' => e = .returned (.tuple #[.agg #[.int .i64 r.n, .int .i64 (hiOf r.s), .int .u64 (loOf r.s), .int .i64 r.lo, .int .i64 r.hi, .int .i64 r.f.t, .int .i64 r.f.v, .int .i64 r.f.s, .int .i64 r.l.t, .int .i64 r.l.v, .int .i64 r.l.s], .int .i64 er]) ∧ Below w.heap.size w w') := fun w => by
    refine (merge_any a b ha hb w).mono ?_
    rintro e w1 ⟨r', er', h, rfl, hb'⟩
    have h1 : r' = r := by rw [hr, h]
    have h2 : er' = er := by rw [her, h]
    subst h1 h2
    exact ⟨rfl, hb'⟩
  have hpa : ∀ w1 : World, Below w.heap.size w w1 → Calls Try.prog 7 #[.slice a0 n cap0] w1 (fun e w' => e = .returned (.tuple #[.agg #[.int .i64 z.n, .int .i64 (hiOf z.s), .int .u64 (loOf z.s), .int .i64 z.lo, .int .i64 z.hi, .int .i64 z.f.t, .int .i64 z.f.v, .int .i64 z.f.s, .int .i64 z.l.t, .int .i64 z.l.v, .int .i64 z.l.s], .int .i64 0]) ∧ Below w1.heap.size w1 w') := fun w1 h1 => by
    refine (all_any a0 n cap0 g _ w1 (hsl.below h1) hg (by omega)).mono ?_
    rintro e w2 ⟨rfl, hb'⟩
    rw [← hz]
    exact ⟨rfl, hb'⟩
  have hra : ∀ w1 : World, Below w.heap.size w w1 → Calls Try.prog 13 #[.slice a0 n cap0] w1 (fun e w' => e = .returned (.tuple #[.agg #[.int .i64 z.n, .int .i64 (lim (z.s) 0), .int .i64 (lim (z.s) 1), .int .i64 (lim (z.s) 2), .int .i64 (lim (z.s) 3), .int .i64 (lim (z.s) 4), .int .i64 (lim (z.s) 5), .int .i64 (lim (z.s) 6), .int .i64 (lim (z.s) 7), .int .i64 z.lo, .int .i64 z.hi, .int .i64 z.f.t, .int .i64 z.f.v, .int .i64 z.f.s, .int .i64 z.l.t, .int .i64 z.l.v, .int .i64 z.l.s], .int .i64 0]) ∧ Below w1.heap.size w1 w') := fun w1 h1 => by
    refine (rall_any a0 n cap0 g _ w1 (hsl.below h1) hg (by omega)).mono ?_
    rintro e w2 ⟨rfl, hb'⟩
    rw [← hz]
    exact ⟨rfl, hb'⟩
  obtain ⟨mv, hmv⟩ : ∃ mv, mv = (meanA a).1 := ⟨_, rfl⟩
  obtain ⟨mo, hmo⟩ : ∃ mo, mo = (meanA a).2 := ⟨_, rfl⟩
  have hpn : ∀ w : World, Calls Try.prog 14 #[.agg #[.int .i64 a.n, .int .i64 (hiOf a.s), .int .u64 (loOf a.s), .int .i64 a.lo, .int .i64 a.hi, .int .i64 a.f.t, .int .i64 a.f.v, .int .i64 a.f.s, .int .i64 a.l.t, .int .i64 a.l.v, .int .i64 a.l.s]] w (fun e w' => e = .returned (.tuple #[.int .i64 mv, .bool mo]) ∧ Below w.heap.size w w') := fun w => by rw [hmv, hmo]; exact mean_any a ha w
  have hrn : ∀ w : World, Calls Try.prog 15 #[.agg #[.int .i64 a.n, .int .i64 (lim (a.s) 0), .int .i64 (lim (a.s) 1), .int .i64 (lim (a.s) 2), .int .i64 (lim (a.s) 3), .int .i64 (lim (a.s) 4), .int .i64 (lim (a.s) 5), .int .i64 (lim (a.s) 6), .int .i64 (lim (a.s) 7), .int .i64 a.lo, .int .i64 a.hi, .int .i64 a.f.t, .int .i64 a.f.v, .int .i64 a.f.s, .int .i64 a.l.t, .int .i64 a.l.v, .int .i64 a.l.s]] w (fun e w' => e = .returned (.tuple #[.int .i64 mv, .bool mo]) ∧ Below w.heap.size w w') := fun w => by rw [hmv, hmo]; exact rmean_any a ha w
  have hone : ∃ ou ov, ∀ w : World, Calls Try.prog 8 #[.agg #[.int .i64 3, .int .i64 7, .int .i64 0]] w (fun e w' => e = .returned (.agg #[.int .i64 1, .int .i64 ou, .int .u64 ov, .int .i64 7, .int .i64 7, .int .i64 3, .int .i64 7, .int .i64 0, .int .i64 3, .int .i64 7, .int .i64 0]) ∧ Below w.heap.size w w') := ⟨hiOf 7, loOf 7, fun w => aggOf_any ⟨3, 7, 0⟩ (by unfold I64; simp) w⟩
  obtain ⟨ou, ov, hone⟩ := hone
  generalize lim a.s = fa at hoa hrm hrn
  generalize lim b.s = fb at hob hrm
  generalize lim r.s = fr at hor hrm
  generalize lim z.s = fz at hoz hra
  have HOA := Lib.hid hoa
  have HOB := Lib.hid hob
  have HOR := Lib.hid hor
  have HOZ := Lib.hid hoz
  have HRM := Lib.hid hrm
  have HPM := Lib.hid hpm
  have HPA := Lib.hid hpa
  have HRA := Lib.hid hra
  have HPN := Lib.hid hpn
  have HRN := Lib.hid hrn
  have HONE := Lib.hid hone
  obtain ⟨x, hx⟩ : ∃ x, x = w.heap.size := ⟨_, rfl⟩
  have o0 := Own.own2 w hx 29 #[.int .i64 a.n, .int .i64 (hiOf a.s), .int .u64 (loOf a.s), .int .i64 a.lo, .int .i64 a.hi, .int .i64 a.f.t, .int .i64 a.f.v, .int .i64 a.f.s, .int .i64 a.l.t, .int .i64 a.l.v, .int .i64 a.l.s] 29 #[.int .i64 b.n, .int .i64 (hiOf b.s), .int .u64 (loOf b.s), .int .i64 b.lo, .int .i64 b.hi, .int .i64 b.f.t, .int .i64 b.f.v, .int .i64 b.f.s, .int .i64 b.l.t, .int .i64 b.l.v, .int .i64 b.l.s]
  have HF := Lib.hid (And.intro hn (And.intro hsl (And.intro hx o0)))
  have hn3 : n ≤ 100 := by omega
  clear hn hg hsl hx o0 hoa hob hor hoz hrm hpm hpa hra hpn hrn hone hmv hmo hz hr her hro hzo ha hb
  go_enter Try.func5, Try.ntmps5
  go_upto_if 22 with (fail)
  rw [← HF.out.2.2.1]
  go_cut [2] (fun s2 wx => s2 = .slice a0 n cap0 ∧ Own w [(x, 29, #[.int .i64 a.n, .int .i64 (hiOf a.s), .int .u64 (loOf a.s), .int .i64 a.lo, .int .i64 a.hi, .int .i64 a.f.t, .int .i64 a.f.v, .int .i64 a.f.s, .int .i64 a.l.t, .int .i64 a.l.v, .int .i64 a.l.s]), (x + 1, 29, #[.int .i64 b.n, .int .i64 (hiOf b.s), .int .u64 (loOf b.s), .int .i64 b.lo, .int .i64 b.hi, .int .i64 b.f.t, .int .i64 b.f.v, .int .i64 b.f.s, .int .i64 b.l.t, .int .i64 b.l.v, .int .i64 b.l.s])] wx)
  case first =>
    by_cases h : 100 < len0
    · obtain ⟨bb, off, hab, -, -⟩ := HF.out.2.1 (by have := HF.out.1; omega)
      subst hab
      go_wp2_with fail
      go_meet
      have : n = 100 := by have := HF.out.1; omega
      subst this
      exact ⟨rfl, HF.out.2.2.2⟩
    · go_wp2_with fail
      go_meet
      have : n = len0 := by have := HF.out.1; omega
      subst this
      exact ⟨rfl, HF.out.2.2.2⟩
  case rest =>
    obtain ⟨rfl, hS⟩ := hcut
    clear l1
    have hl0 := @wpList_load_blk Try.prog _ _ _ _ (hS.get 0 rfl) 29 0 11 [.int .i64 a.n, .int .i64 (hiOf a.s), .int .u64 (loOf a.s), .int .i64 a.lo, .int .i64 a.hi, .int .i64 a.f.t, .int .i64 a.f.v, .int .i64 a.f.s, .int .i64 a.l.t, .int .i64 a.l.v, .int .i64 a.l.s] _ Try.underlying29 rfl rfl (by kernel_rfl) (fun j _ => by simp)
    have hl1 := @wpList_load_blk Try.prog _ _ _ _ (hS.get 1 rfl) 29 0 11 [.int .i64 b.n, .int .i64 (hiOf b.s), .int .u64 (loOf b.s), .int .i64 b.lo, .int .i64 b.hi, .int .i64 b.f.t, .int .i64 b.f.v, .int .i64 b.f.s, .int .i64 b.l.t, .int .i64 b.l.v, .int .i64 b.l.s] _ Try.underlying29 rfl rfl (by kernel_rfl) (fun j _ => by simp)
    have H0 := Lib.hid hS
    clear hS
    go_wp2_with (first | (refine hl0 rfl _ rfl rfl ?_) | (refine hl1 rfl _ rfl rfl ?_))
    refine (HPM.out _).mono ?_
    rintro e w1 ⟨rfl, hb1⟩
    clear hl0 hl1
    obtain ⟨y7, hy⟩ : ∃ y, y = w1.heap.size := ⟨_, rfl⟩
    have h1 := ((H0.out.call hb1).alloc hy 29 #[.int .i64 r.n, .int .i64 (hiOf r.s), .int .u64 (loOf r.s), .int .i64 r.lo, .int .i64 r.hi, .int .i64 r.f.t, .int .i64 r.f.v, .int .i64 r.f.s, .int .i64 r.l.t, .int .i64 r.l.v, .int .i64 r.l.s]).front 2 rfl
    have H1 := Lib.hid (And.intro hy h1)
    clear hy h1 hb1 H0
    go_upto_region 4 with (fail)
    rw [← H1.out.1]
    refine wp_gen (Own w [(y7, 29, #[.int .i64 r.n, .int .i64 (hiOf r.s), .int .u64 (loOf r.s), .int .i64 r.lo, .int .i64 r.hi, .int .i64 r.f.t, .int .i64 r.f.v, .int .i64 r.f.s, .int .i64 r.l.t, .int .i64 r.l.v, .int .i64 r.l.s]), (x, 29, #[.int .i64 a.n, .int .i64 (hiOf a.s), .int .u64 (loOf a.s), .int .i64 a.lo, .int .i64 a.hi, .int .i64 a.f.t, .int .i64 a.f.v, .int .i64 a.f.s, .int .i64 a.l.t, .int .i64 a.l.v, .int .i64 a.l.s]), (x + 1, 29, #[.int .i64 b.n, .int .i64 (hiOf b.s), .int .u64 (loOf b.s), .int .i64 b.lo, .int .i64 b.hi, .int .i64 b.f.t, .int .i64 b.f.v, .int .i64 b.f.s, .int .i64 b.l.t, .int .i64 b.l.v, .int .i64 b.l.s])]) H1.out.2 ?_
    intro w2 hS2
    have H2 := Lib.hid hS2
    clear H1 hS2
    go_cut [9, 10] from 32 to 38 (fun s9 s10 wx => ∃ y9, s9 = .pointer (some ⟨y9, 0, none⟩) ∧ s10 = .int .i64 er ∧ Own w [(y9, 40, #[.int .i64 r.n, .int .i64 (fr 0), .int .i64 (fr 1), .int .i64 (fr 2), .int .i64 (fr 3), .int .i64 (fr 4), .int .i64 (fr 5), .int .i64 (fr 6), .int .i64 (fr 7), .int .i64 r.lo, .int .i64 r.hi, .int .i64 r.f.t, .int .i64 r.f.v, .int .i64 r.f.s, .int .i64 r.l.t, .int .i64 r.l.v, .int .i64 r.l.s]), (y7, 29, #[.int .i64 r.n, .int .i64 (hiOf r.s), .int .u64 (loOf r.s), .int .i64 r.lo, .int .i64 r.hi, .int .i64 r.f.t, .int .i64 r.f.v, .int .i64 r.f.s, .int .i64 r.l.t, .int .i64 r.l.v, .int .i64 r.l.s]), (x, 29, #[.int .i64 a.n, .int .i64 (hiOf a.s), .int .u64 (loOf a.s), .int .i64 a.lo, .int .i64 a.hi, .int .i64 a.f.t, .int .i64 a.f.v, .int .i64 a.f.s, .int .i64 a.l.t, .int .i64 a.l.v, .int .i64 a.l.s]), (x + 1, 29, #[.int .i64 b.n, .int .i64 (hiOf b.s), .int .u64 (loOf b.s), .int .i64 b.lo, .int .i64 b.hi, .int .i64 b.f.t, .int .i64 b.f.v, .int .i64 b.f.s, .int .i64 b.l.t, .int .i64 b.l.v, .int .i64 b.l.s])] wx)
    case first =>
      have hS : (Own w [(y7, 29, #[.int .i64 r.n, .int .i64 (hiOf r.s), .int .u64 (loOf r.s), .int .i64 r.lo, .int .i64 r.hi, .int .i64 r.f.t, .int .i64 r.f.v, .int .i64 r.f.s, .int .i64 r.l.t, .int .i64 r.l.v, .int .i64 r.l.s]), (x, 29, #[.int .i64 a.n, .int .i64 (hiOf a.s), .int .u64 (loOf a.s), .int .i64 a.lo, .int .i64 a.hi, .int .i64 a.f.t, .int .i64 a.f.v, .int .i64 a.f.s, .int .i64 a.l.t, .int .i64 a.l.v, .int .i64 a.l.s]), (x + 1, 29, #[.int .i64 b.n, .int .i64 (hiOf b.s), .int .u64 (loOf b.s), .int .i64 b.lo, .int .i64 b.hi, .int .i64 b.f.t, .int .i64 b.f.v, .int .i64 b.f.s, .int .i64 b.l.t, .int .i64 b.l.v, .int .i64 b.l.s])]) (w2.drew) := H2.out.drew
      refine reg_start (Own w [(y7, 29, #[.int .i64 r.n, .int .i64 (hiOf r.s), .int .u64 (loOf r.s), .int .i64 r.lo, .int .i64 r.hi, .int .i64 r.f.t, .int .i64 r.f.v, .int .i64 r.f.s, .int .i64 r.l.t, .int .i64 r.l.v, .int .i64 r.l.s]), (x, 29, #[.int .i64 a.n, .int .i64 (hiOf a.s), .int .u64 (loOf a.s), .int .i64 a.lo, .int .i64 a.hi, .int .i64 a.f.t, .int .i64 a.f.v, .int .i64 a.f.s, .int .i64 a.l.t, .int .i64 a.l.v, .int .i64 a.l.s]), (x + 1, 29, #[.int .i64 b.n, .int .i64 (hiOf b.s), .int .u64 (loOf b.s), .int .i64 b.lo, .int .i64 b.hi, .int .i64 b.f.t, .int .i64 b.f.v, .int .i64 b.f.s, .int .i64 b.l.t, .int .i64 b.l.v, .int .i64 b.l.s])]) (by kernel_rfl) hS ?_
      refine reg_take (i := 0) (v := .agg [.int .i64 a.n, .int .i64 (hiOf a.s), .int .u64 (loOf a.s), .int .i64 a.lo, .int .i64 a.hi, .int .i64 a.f.t, .int .i64 a.f.v, .int .i64 a.f.s, .int .i64 a.l.t, .int .i64 a.l.v, .int .i64 a.l.s].toArray) rfl (by kernel_rfl) (by kernel_rfl) (by kernel_rfl) (fun _ _ _ h => h) (yieldsIf_load_mid (by kernel_rfl) _ _ rfl (x) 0 rfl [.int .i64 a.n, .int .i64 (hiOf a.s), .int .u64 (loOf a.s), .int .i64 a.lo, .int .i64 a.hi, .int .i64 a.f.t, .int .i64 a.f.v, .int .i64 a.f.s, .int .i64 a.l.t, .int .i64 a.l.v, .int .i64 a.l.s] _ (fun w' h => range_blk (h.get 1 rfl) 0 11 _ rfl (fun j _ => by simp)) Try.underlying29 rfl (by kernel_rfl)) hS ?_
      try simp only [List.getElem_toArray, List.getElem_cons_succ, List.getElem_cons_zero, Act.put, List.setIfInBounds_toArray, List.set_cons_zero, List.set_cons_succ]
      refine reg_take (i := 2) (v := .agg [.int .i64 b.n, .int .i64 (hiOf b.s), .int .u64 (loOf b.s), .int .i64 b.lo, .int .i64 b.hi, .int .i64 b.f.t, .int .i64 b.f.v, .int .i64 b.f.s, .int .i64 b.l.t, .int .i64 b.l.v, .int .i64 b.l.s].toArray) rfl (by kernel_rfl) (by kernel_rfl) (by kernel_rfl) (fun _ _ _ h => h) (yieldsIf_load_mid (by kernel_rfl) _ _ rfl (x + 1) 0 rfl [.int .i64 b.n, .int .i64 (hiOf b.s), .int .u64 (loOf b.s), .int .i64 b.lo, .int .i64 b.hi, .int .i64 b.f.t, .int .i64 b.f.v, .int .i64 b.f.s, .int .i64 b.l.t, .int .i64 b.l.v, .int .i64 b.l.s] _ (fun w' h => range_blk (h.get 2 rfl) 0 11 _ rfl (fun j _ => by simp)) Try.underlying29 rfl (by kernel_rfl)) hS ?_
      try simp only [List.getElem_toArray, List.getElem_cons_succ, List.getElem_cons_zero, Act.put, List.setIfInBounds_toArray, List.set_cons_zero, List.set_cons_succ]
      generalize w2.drew = wd at hS ⊢
      have HD := Lib.hid hS
      refine reg_two (i := 1) (j := 8) rfl rfl (by kernel_rfl) (fun K hK => ?_) (fun K hK => ?_)
      · skip
        have HK := Lib.hid hK
        clear hK
        go_simp
        refine (HOA.out _).mono ?_
        rintro e w3 ⟨rfl, h3⟩
        have H3 := Lib.hid (HD.out.call h3)
        clear h3
        go_wp2_with fail
        refine HK.out.to (Own w [(y7, 29, #[.int .i64 r.n, .int .i64 (hiOf r.s), .int .u64 (loOf r.s), .int .i64 r.lo, .int .i64 r.hi, .int .i64 r.f.t, .int .i64 r.f.v, .int .i64 r.f.s, .int .i64 r.l.t, .int .i64 r.l.v, .int .i64 r.l.s]), (x, 29, #[.int .i64 a.n, .int .i64 (hiOf a.s), .int .u64 (loOf a.s), .int .i64 a.lo, .int .i64 a.hi, .int .i64 a.f.t, .int .i64 a.f.v, .int .i64 a.f.s, .int .i64 a.l.t, .int .i64 a.l.v, .int .i64 a.l.s]), (x + 1, 29, #[.int .i64 b.n, .int .i64 (hiOf b.s), .int .u64 (loOf b.s), .int .i64 b.lo, .int .i64 b.hi, .int .i64 b.f.t, .int .i64 b.f.v, .int .i64 b.f.s, .int .i64 b.l.t, .int .i64 b.l.v, .int .i64 b.l.s])]) (fun _ h => h) (H3.out) ?_
        clear HK hS
        have hS : (Own w [(y7, 29, #[.int .i64 r.n, .int .i64 (hiOf r.s), .int .u64 (loOf r.s), .int .i64 r.lo, .int .i64 r.hi, .int .i64 r.f.t, .int .i64 r.f.v, .int .i64 r.f.s, .int .i64 r.l.t, .int .i64 r.l.v, .int .i64 r.l.s]), (x, 29, #[.int .i64 a.n, .int .i64 (hiOf a.s), .int .u64 (loOf a.s), .int .i64 a.lo, .int .i64 a.hi, .int .i64 a.f.t, .int .i64 a.f.v, .int .i64 a.f.s, .int .i64 a.l.t, .int .i64 a.l.v, .int .i64 a.l.s]), (x + 1, 29, #[.int .i64 b.n, .int .i64 (hiOf b.s), .int .u64 (loOf b.s), .int .i64 b.lo, .int .i64 b.hi, .int .i64 b.f.t, .int .i64 b.f.v, .int .i64 b.f.s, .int .i64 b.l.t, .int .i64 b.l.v, .int .i64 b.l.s])]) (w3) := H3.out
        try simp only [List.getElem_toArray, List.getElem_cons_succ, List.getElem_cons_zero, Act.put, List.setIfInBounds_toArray, List.set_cons_zero, List.set_cons_succ]
        refine reg_two (i := 3) (j := 8) rfl rfl (by kernel_rfl) (fun K hK => ?_) (fun K hK => ?_)
        · skip
          have HK := Lib.hid hK
          clear hK
          go_simp
          refine (HOB.out _).mono ?_
          rintro e w4 ⟨rfl, h4⟩
          have H4 := Lib.hid (H3.out.call h4)
          clear h4
          go_wp2_with fail
          refine HK.out.to (Own w [(y7, 29, #[.int .i64 r.n, .int .i64 (hiOf r.s), .int .u64 (loOf r.s), .int .i64 r.lo, .int .i64 r.hi, .int .i64 r.f.t, .int .i64 r.f.v, .int .i64 r.f.s, .int .i64 r.l.t, .int .i64 r.l.v, .int .i64 r.l.s]), (x, 29, #[.int .i64 a.n, .int .i64 (hiOf a.s), .int .u64 (loOf a.s), .int .i64 a.lo, .int .i64 a.hi, .int .i64 a.f.t, .int .i64 a.f.v, .int .i64 a.f.s, .int .i64 a.l.t, .int .i64 a.l.v, .int .i64 a.l.s]), (x + 1, 29, #[.int .i64 b.n, .int .i64 (hiOf b.s), .int .u64 (loOf b.s), .int .i64 b.lo, .int .i64 b.hi, .int .i64 b.f.t, .int .i64 b.f.v, .int .i64 b.f.s, .int .i64 b.l.t, .int .i64 b.l.v, .int .i64 b.l.s])]) (fun _ h => h) (H4.out) ?_
          clear HK hS
          have hS : (Own w [(y7, 29, #[.int .i64 r.n, .int .i64 (hiOf r.s), .int .u64 (loOf r.s), .int .i64 r.lo, .int .i64 r.hi, .int .i64 r.f.t, .int .i64 r.f.v, .int .i64 r.f.s, .int .i64 r.l.t, .int .i64 r.l.v, .int .i64 r.l.s]), (x, 29, #[.int .i64 a.n, .int .i64 (hiOf a.s), .int .u64 (loOf a.s), .int .i64 a.lo, .int .i64 a.hi, .int .i64 a.f.t, .int .i64 a.f.v, .int .i64 a.f.s, .int .i64 a.l.t, .int .i64 a.l.v, .int .i64 a.l.s]), (x + 1, 29, #[.int .i64 b.n, .int .i64 (hiOf b.s), .int .u64 (loOf b.s), .int .i64 b.lo, .int .i64 b.hi, .int .i64 b.f.t, .int .i64 b.f.v, .int .i64 b.f.s, .int .i64 b.l.t, .int .i64 b.l.v, .int .i64 b.l.s])]) (w4) := H4.out
          try simp only [List.getElem_toArray, List.getElem_cons_succ, List.getElem_cons_zero, Act.put, List.setIfInBounds_toArray, List.set_cons_zero, List.set_cons_succ]
          refine reg_two (i := 4) (j := 8) rfl rfl (by kernel_rfl) (fun K hK => ?_) (fun K hK => ?_)
          · skip
            have HK := Lib.hid hK
            clear hK
            go_simp
            refine (HRM.out _).mono ?_
            rintro e w5 ⟨rfl, h5⟩
            have H5 := Lib.hid (H4.out.call h5)
            clear h5
            go_wp2_with fail
            refine HK.out.to (Own w [(y7, 29, #[.int .i64 r.n, .int .i64 (hiOf r.s), .int .u64 (loOf r.s), .int .i64 r.lo, .int .i64 r.hi, .int .i64 r.f.t, .int .i64 r.f.v, .int .i64 r.f.s, .int .i64 r.l.t, .int .i64 r.l.v, .int .i64 r.l.s]), (x, 29, #[.int .i64 a.n, .int .i64 (hiOf a.s), .int .u64 (loOf a.s), .int .i64 a.lo, .int .i64 a.hi, .int .i64 a.f.t, .int .i64 a.f.v, .int .i64 a.f.s, .int .i64 a.l.t, .int .i64 a.l.v, .int .i64 a.l.s]), (x + 1, 29, #[.int .i64 b.n, .int .i64 (hiOf b.s), .int .u64 (loOf b.s), .int .i64 b.lo, .int .i64 b.hi, .int .i64 b.f.t, .int .i64 b.f.v, .int .i64 b.f.s, .int .i64 b.l.t, .int .i64 b.l.v, .int .i64 b.l.s])]) (fun _ h => h) (H5.out) ?_
            clear HK hS
            have hS : (Own w [(y7, 29, #[.int .i64 r.n, .int .i64 (hiOf r.s), .int .u64 (loOf r.s), .int .i64 r.lo, .int .i64 r.hi, .int .i64 r.f.t, .int .i64 r.f.v, .int .i64 r.f.s, .int .i64 r.l.t, .int .i64 r.l.v, .int .i64 r.l.s]), (x, 29, #[.int .i64 a.n, .int .i64 (hiOf a.s), .int .u64 (loOf a.s), .int .i64 a.lo, .int .i64 a.hi, .int .i64 a.f.t, .int .i64 a.f.v, .int .i64 a.f.s, .int .i64 a.l.t, .int .i64 a.l.v, .int .i64 a.l.s]), (x + 1, 29, #[.int .i64 b.n, .int .i64 (hiOf b.s), .int .u64 (loOf b.s), .int .i64 b.lo, .int .i64 b.hi, .int .i64 b.f.t, .int .i64 b.f.v, .int .i64 b.f.s, .int .i64 b.l.t, .int .i64 b.l.v, .int .i64 b.l.s])]) (w5) := H5.out
            try simp only [List.getElem_toArray, List.getElem_cons_succ, List.getElem_cons_zero, Act.put, List.setIfInBounds_toArray, List.set_cons_zero, List.set_cons_succ]
            refine reg_take (i := 5) (v := ?_) rfl (by kernel_rfl) (by kernel_rfl) (by kernel_rfl) (fun _ _ _ h => h) (Or.inl ⟨by kernel_rfl, ?_⟩) hS ?_
            rotate_left
            · (intro w' hSw; go_simp <;> with_reducible rfl)
            try simp only [List.getElem_toArray, List.getElem_cons_succ, List.getElem_cons_zero, Act.put, List.setIfInBounds_toArray, List.set_cons_zero, List.set_cons_succ]
            refine reg_take (i := 6) (v := ?_) rfl (by kernel_rfl) (by kernel_rfl) (by kernel_rfl) (fun _ _ _ h => h) (Or.inl ⟨by kernel_rfl, ?_⟩) hS ?_
            rotate_left
            · (intro w' hSw; go_simp <;> with_reducible rfl)
            try simp only [List.getElem_toArray, List.getElem_cons_succ, List.getElem_cons_zero, Act.put, List.setIfInBounds_toArray, List.set_cons_zero, List.set_cons_succ]
            refine reg_take (i := 7) (v := ?_) rfl (by kernel_rfl) (by kernel_rfl) (by kernel_rfl) (fun _ _ _ h => h) (Or.inl ⟨by kernel_rfl, ?_⟩) hS ?_
            rotate_left
            · (intro w' hSw; go_simp <;> with_reducible rfl)
            try simp only [List.getElem_toArray, List.getElem_cons_succ, List.getElem_cons_zero, Act.put, List.setIfInBounds_toArray, List.set_cons_zero, List.set_cons_succ]
            obtain ⟨y9, hy9⟩ : ∃ y, y = w5.heap.size := ⟨_, rfl⟩
            have HAL := Lib.hid ((H5.out.alloc hy9 40 #[.int .i64 0, .int .i64 0, .int .i64 0, .int .i64 0, .int .i64 0, .int .i64 0, .int .i64 0, .int .i64 0, .int .i64 0, .int .i64 0, .int .i64 0, .int .i64 0, .int .i64 0, .int .i64 0, .int .i64 0, .int .i64 0, .int .i64 0]).front 3 rfl)
            refine reg_call (i := 8) rfl (by kernel_rfl) (fun K hK => ?_)
            have HK := Lib.hid hK
            clear hK
            go_simp
            rw [← hy9]
            clear hy9
            go_wp2_with fail
            refine HK.out.to (Own w [(y7, 29, #[.int .i64 r.n, .int .i64 (hiOf r.s), .int .u64 (loOf r.s), .int .i64 r.lo, .int .i64 r.hi, .int .i64 r.f.t, .int .i64 r.f.v, .int .i64 r.f.s, .int .i64 r.l.t, .int .i64 r.l.v, .int .i64 r.l.s]), (x, 29, #[.int .i64 a.n, .int .i64 (hiOf a.s), .int .u64 (loOf a.s), .int .i64 a.lo, .int .i64 a.hi, .int .i64 a.f.t, .int .i64 a.f.v, .int .i64 a.f.s, .int .i64 a.l.t, .int .i64 a.l.v, .int .i64 a.l.s]), (x + 1, 29, #[.int .i64 b.n, .int .i64 (hiOf b.s), .int .u64 (loOf b.s), .int .i64 b.lo, .int .i64 b.hi, .int .i64 b.f.t, .int .i64 b.f.v, .int .i64 b.f.s, .int .i64 b.l.t, .int .i64 b.l.v, .int .i64 b.l.s])]) (fun _ h => h) (HAL.out.drop1) ?_
            clear HK hS
            have hS : (Own w [(y7, 29, #[.int .i64 r.n, .int .i64 (hiOf r.s), .int .u64 (loOf r.s), .int .i64 r.lo, .int .i64 r.hi, .int .i64 r.f.t, .int .i64 r.f.v, .int .i64 r.f.s, .int .i64 r.l.t, .int .i64 r.l.v, .int .i64 r.l.s]), (x, 29, #[.int .i64 a.n, .int .i64 (hiOf a.s), .int .u64 (loOf a.s), .int .i64 a.lo, .int .i64 a.hi, .int .i64 a.f.t, .int .i64 a.f.v, .int .i64 a.f.s, .int .i64 a.l.t, .int .i64 a.l.v, .int .i64 a.l.s]), (x + 1, 29, #[.int .i64 b.n, .int .i64 (hiOf b.s), .int .u64 (loOf b.s), .int .i64 b.lo, .int .i64 b.hi, .int .i64 b.f.t, .int .i64 b.f.v, .int .i64 b.f.s, .int .i64 b.l.t, .int .i64 b.l.v, .int .i64 b.l.s])]) (w5.alloc (.cells #[.int .i64 0, .int .i64 0, .int .i64 0, .int .i64 0, .int .i64 0, .int .i64 0, .int .i64 0, .int .i64 0, .int .i64 0, .int .i64 0, .int .i64 0, .int .i64 0, .int .i64 0, .int .i64 0, .int .i64 0, .int .i64 0, .int .i64 0] 40)) := HAL.out.drop1
            try simp only [List.getElem_toArray, List.getElem_cons_succ, List.getElem_cons_zero, Act.put, List.setIfInBounds_toArray, List.set_cons_zero, List.set_cons_succ]
            refine reg_call (i := 9) rfl (by kernel_rfl) (fun K hK => ?_)
            have HK := Lib.hid hK
            clear hK
            refine step_store_blk (HAL.out.get 0 rfl) 40 0 17 [.int .i64 r.n, .int .i64 (fr 0), .int .i64 (fr 1), .int .i64 (fr 2), .int .i64 (fr 3), .int .i64 (fr 4), .int .i64 (fr 5), .int .i64 (fr 6), .int .i64 (fr 7), .int .i64 r.lo, .int .i64 r.hi, .int .i64 r.f.t, .int .i64 r.f.v, .int .i64 r.f.s, .int .i64 r.l.t, .int .i64 r.l.v, .int .i64 r.l.s] rfl (by decide) (by kernel_rfl) (List.all_eq_true.1 rfl) rfl _ _ rfl rfl rfl ?_
            have HST := Lib.hid ((OwnR.of (n := 17) HAL.out rfl).put [.int .i64 r.n, .int .i64 (fr 0), .int .i64 (fr 1), .int .i64 (fr 2), .int .i64 (fr 3), .int .i64 (fr 4), .int .i64 (fr 5), .int .i64 (fr 6), .int .i64 (fr 7), .int .i64 r.lo, .int .i64 r.hi, .int .i64 r.f.t, .int .i64 r.f.v, .int .i64 r.f.s, .int .i64 r.l.t, .int .i64 r.l.v, .int .i64 r.l.s] rfl)
            refine HK.out.to (fun w' => Own w [(y9, 40, #[.int .i64 r.n, .int .i64 (fr 0), .int .i64 (fr 1), .int .i64 (fr 2), .int .i64 (fr 3), .int .i64 (fr 4), .int .i64 (fr 5), .int .i64 (fr 6), .int .i64 (fr 7), .int .i64 r.lo, .int .i64 r.hi, .int .i64 r.f.t, .int .i64 r.f.v, .int .i64 r.f.s, .int .i64 r.l.t, .int .i64 r.l.v, .int .i64 r.l.s]), (y7, 29, #[.int .i64 r.n, .int .i64 (hiOf r.s), .int .u64 (loOf r.s), .int .i64 r.lo, .int .i64 r.hi, .int .i64 r.f.t, .int .i64 r.f.v, .int .i64 r.f.s, .int .i64 r.l.t, .int .i64 r.l.v, .int .i64 r.l.s]), (x, 29, #[.int .i64 a.n, .int .i64 (hiOf a.s), .int .u64 (loOf a.s), .int .i64 a.lo, .int .i64 a.hi, .int .i64 a.f.t, .int .i64 a.f.v, .int .i64 a.f.s, .int .i64 a.l.t, .int .i64 a.l.v, .int .i64 a.l.s]), (x + 1, 29, #[.int .i64 b.n, .int .i64 (hiOf b.s), .int .u64 (loOf b.s), .int .i64 b.lo, .int .i64 b.hi, .int .i64 b.f.t, .int .i64 b.f.v, .int .i64 b.f.s, .int .i64 b.l.t, .int .i64 b.l.v, .int .i64 b.l.s])] w') (fun _ h => h.drop1) (HST.out) ?_
            clear HK hS
            have hS : (fun w' => Own w [(y9, 40, #[.int .i64 r.n, .int .i64 (fr 0), .int .i64 (fr 1), .int .i64 (fr 2), .int .i64 (fr 3), .int .i64 (fr 4), .int .i64 (fr 5), .int .i64 (fr 6), .int .i64 (fr 7), .int .i64 r.lo, .int .i64 r.hi, .int .i64 r.f.t, .int .i64 r.f.v, .int .i64 r.f.s, .int .i64 r.l.t, .int .i64 r.l.v, .int .i64 r.l.s]), (y7, 29, #[.int .i64 r.n, .int .i64 (hiOf r.s), .int .u64 (loOf r.s), .int .i64 r.lo, .int .i64 r.hi, .int .i64 r.f.t, .int .i64 r.f.v, .int .i64 r.f.s, .int .i64 r.l.t, .int .i64 r.l.v, .int .i64 r.l.s]), (x, 29, #[.int .i64 a.n, .int .i64 (hiOf a.s), .int .u64 (loOf a.s), .int .i64 a.lo, .int .i64 a.hi, .int .i64 a.f.t, .int .i64 a.f.v, .int .i64 a.f.s, .int .i64 a.l.t, .int .i64 a.l.v, .int .i64 a.l.s]), (x + 1, 29, #[.int .i64 b.n, .int .i64 (hiOf b.s), .int .u64 (loOf b.s), .int .i64 b.lo, .int .i64 b.hi, .int .i64 b.f.t, .int .i64 b.f.v, .int .i64 b.f.s, .int .i64 b.l.t, .int .i64 b.l.v, .int .i64 b.l.s])] w') (setFrom (w5.alloc (.cells #[.int .i64 0, .int .i64 0, .int .i64 0, .int .i64 0, .int .i64 0, .int .i64 0, .int .i64 0, .int .i64 0, .int .i64 0, .int .i64 0, .int .i64 0, .int .i64 0, .int .i64 0, .int .i64 0, .int .i64 0, .int .i64 0, .int .i64 0] 40)) y9 0 [.int .i64 r.n, .int .i64 (fr 0), .int .i64 (fr 1), .int .i64 (fr 2), .int .i64 (fr 3), .int .i64 (fr 4), .int .i64 (fr 5), .int .i64 (fr 6), .int .i64 (fr 7), .int .i64 r.lo, .int .i64 r.hi, .int .i64 r.f.t, .int .i64 r.f.v, .int .i64 r.f.s, .int .i64 r.l.t, .int .i64 r.l.v, .int .i64 r.l.s]) := HST.out
            try simp only [List.getElem_toArray, List.getElem_cons_succ, List.getElem_cons_zero, Act.put, List.setIfInBounds_toArray, List.set_cons_zero, List.set_cons_succ]
            refine reg_take (i := 10) (v := ?_) rfl (by kernel_rfl) (by kernel_rfl) (by kernel_rfl) (fun _ _ _ h => h) (Or.inl ⟨by kernel_rfl, ?_⟩) hS ?_
            rotate_left
            · (intro w' hSw; go_simp <;> with_reducible rfl)
            try simp only [List.getElem_toArray, List.getElem_cons_succ, List.getElem_cons_zero, Act.put, List.setIfInBounds_toArray, List.set_cons_zero, List.set_cons_succ]
            refine wpAnyH_done (by kernel_rfl) ?_ _
            try simp only [List.getElem_toArray, List.getElem_cons_succ, List.getElem_cons_zero]
            try simp only [List.getElem_toArray, List.getElem_cons_succ, List.getElem_cons_zero, Act.put, List.setIfInBounds_toArray, List.set_cons_zero, List.set_cons_succ]
            clear hS
            go_wp2_with fail
            go_meet
            exact ⟨y9, rfl, rfl, HST.out⟩
          · skip
            have HK := Lib.hid hK
            clear hK
            go_simp
            obtain ⟨y9, hy9⟩ : ∃ y, y = w4.heap.size := ⟨_, rfl⟩
            have HAL := Lib.hid ((H4.out.alloc hy9 40 #[.int .i64 0, .int .i64 0, .int .i64 0, .int .i64 0, .int .i64 0, .int .i64 0, .int .i64 0, .int .i64 0, .int .i64 0, .int .i64 0, .int .i64 0, .int .i64 0, .int .i64 0, .int .i64 0, .int .i64 0, .int .i64 0, .int .i64 0]).front 3 rfl)
            rw [← hy9]
            clear hy9
            go_wp2_with fail
            refine HK.out.to (Own w [(y7, 29, #[.int .i64 r.n, .int .i64 (hiOf r.s), .int .u64 (loOf r.s), .int .i64 r.lo, .int .i64 r.hi, .int .i64 r.f.t, .int .i64 r.f.v, .int .i64 r.f.s, .int .i64 r.l.t, .int .i64 r.l.v, .int .i64 r.l.s]), (x, 29, #[.int .i64 a.n, .int .i64 (hiOf a.s), .int .u64 (loOf a.s), .int .i64 a.lo, .int .i64 a.hi, .int .i64 a.f.t, .int .i64 a.f.v, .int .i64 a.f.s, .int .i64 a.l.t, .int .i64 a.l.v, .int .i64 a.l.s]), (x + 1, 29, #[.int .i64 b.n, .int .i64 (hiOf b.s), .int .u64 (loOf b.s), .int .i64 b.lo, .int .i64 b.hi, .int .i64 b.f.t, .int .i64 b.f.v, .int .i64 b.f.s, .int .i64 b.l.t, .int .i64 b.l.v, .int .i64 b.l.s])]) (fun _ h => h) (HAL.out.drop1) ?_
            clear HK hS
            have hS : (Own w [(y7, 29, #[.int .i64 r.n, .int .i64 (hiOf r.s), .int .u64 (loOf r.s), .int .i64 r.lo, .int .i64 r.hi, .int .i64 r.f.t, .int .i64 r.f.v, .int .i64 r.f.s, .int .i64 r.l.t, .int .i64 r.l.v, .int .i64 r.l.s]), (x, 29, #[.int .i64 a.n, .int .i64 (hiOf a.s), .int .u64 (loOf a.s), .int .i64 a.lo, .int .i64 a.hi, .int .i64 a.f.t, .int .i64 a.f.v, .int .i64 a.f.s, .int .i64 a.l.t, .int .i64 a.l.v, .int .i64 a.l.s]), (x + 1, 29, #[.int .i64 b.n, .int .i64 (hiOf b.s), .int .u64 (loOf b.s), .int .i64 b.lo, .int .i64 b.hi, .int .i64 b.f.t, .int .i64 b.f.v, .int .i64 b.f.s, .int .i64 b.l.t, .int .i64 b.l.v, .int .i64 b.l.s])]) (w4.alloc (.cells #[.int .i64 0, .int .i64 0, .int .i64 0, .int .i64 0, .int .i64 0, .int .i64 0, .int .i64 0, .int .i64 0, .int .i64 0, .int .i64 0, .int .i64 0, .int .i64 0, .int .i64 0, .int .i64 0, .int .i64 0, .int .i64 0, .int .i64 0] 40)) := HAL.out.drop1
            try simp only [List.getElem_toArray, List.getElem_cons_succ, List.getElem_cons_zero, Act.put, List.setIfInBounds_toArray, List.set_cons_zero, List.set_cons_succ]
            refine reg_call (i := 4) rfl (by kernel_rfl) (fun K hK => ?_)
            have HK := Lib.hid hK
            clear hK
            go_simp
            refine (HRM.out _).mono ?_
            rintro e w5 ⟨rfl, h5⟩
            have H5 := Lib.hid (HAL.out.call h5)
            clear h5
            go_wp2_with fail
            refine HK.out.to (Own w [(y7, 29, #[.int .i64 r.n, .int .i64 (hiOf r.s), .int .u64 (loOf r.s), .int .i64 r.lo, .int .i64 r.hi, .int .i64 r.f.t, .int .i64 r.f.v, .int .i64 r.f.s, .int .i64 r.l.t, .int .i64 r.l.v, .int .i64 r.l.s]), (x, 29, #[.int .i64 a.n, .int .i64 (hiOf a.s), .int .u64 (loOf a.s), .int .i64 a.lo, .int .i64 a.hi, .int .i64 a.f.t, .int .i64 a.f.v, .int .i64 a.f.s, .int .i64 a.l.t, .int .i64 a.l.v, .int .i64 a.l.s]), (x + 1, 29, #[.int .i64 b.n, .int .i64 (hiOf b.s), .int .u64 (loOf b.s), .int .i64 b.lo, .int .i64 b.hi, .int .i64 b.f.t, .int .i64 b.f.v, .int .i64 b.f.s, .int .i64 b.l.t, .int .i64 b.l.v, .int .i64 b.l.s])]) (fun _ h => h) (H5.out.drop1) ?_
            clear HK hS
            have hS : (Own w [(y7, 29, #[.int .i64 r.n, .int .i64 (hiOf r.s), .int .u64 (loOf r.s), .int .i64 r.lo, .int .i64 r.hi, .int .i64 r.f.t, .int .i64 r.f.v, .int .i64 r.f.s, .int .i64 r.l.t, .int .i64 r.l.v, .int .i64 r.l.s]), (x, 29, #[.int .i64 a.n, .int .i64 (hiOf a.s), .int .u64 (loOf a.s), .int .i64 a.lo, .int .i64 a.hi, .int .i64 a.f.t, .int .i64 a.f.v, .int .i64 a.f.s, .int .i64 a.l.t, .int .i64 a.l.v, .int .i64 a.l.s]), (x + 1, 29, #[.int .i64 b.n, .int .i64 (hiOf b.s), .int .u64 (loOf b.s), .int .i64 b.lo, .int .i64 b.hi, .int .i64 b.f.t, .int .i64 b.f.v, .int .i64 b.f.s, .int .i64 b.l.t, .int .i64 b.l.v, .int .i64 b.l.s])]) (w5) := H5.out.drop1
            try simp only [List.getElem_toArray, List.getElem_cons_succ, List.getElem_cons_zero, Act.put, List.setIfInBounds_toArray, List.set_cons_zero, List.set_cons_succ]
            refine reg_take (i := 5) (v := ?_) rfl (by kernel_rfl) (by kernel_rfl) (by kernel_rfl) (fun _ _ _ h => h) (Or.inl ⟨by kernel_rfl, ?_⟩) hS ?_
            rotate_left
            · (intro w' hSw; go_simp <;> with_reducible rfl)
            try simp only [List.getElem_toArray, List.getElem_cons_succ, List.getElem_cons_zero, Act.put, List.setIfInBounds_toArray, List.set_cons_zero, List.set_cons_succ]
            refine reg_take (i := 6) (v := ?_) rfl (by kernel_rfl) (by kernel_rfl) (by kernel_rfl) (fun _ _ _ h => h) (Or.inl ⟨by kernel_rfl, ?_⟩) hS ?_
            rotate_left
            · (intro w' hSw; go_simp <;> with_reducible rfl)
            try simp only [List.getElem_toArray, List.getElem_cons_succ, List.getElem_cons_zero, Act.put, List.setIfInBounds_toArray, List.set_cons_zero, List.set_cons_succ]
            refine reg_take (i := 7) (v := ?_) rfl (by kernel_rfl) (by kernel_rfl) (by kernel_rfl) (fun _ _ _ h => h) (Or.inl ⟨by kernel_rfl, ?_⟩) hS ?_
            rotate_left
            · (intro w' hSw; go_simp <;> with_reducible rfl)
            try simp only [List.getElem_toArray, List.getElem_cons_succ, List.getElem_cons_zero, Act.put, List.setIfInBounds_toArray, List.set_cons_zero, List.set_cons_succ]
            refine reg_call (i := 9) rfl (by kernel_rfl) (fun K hK => ?_)
            have HK := Lib.hid hK
            clear hK
            refine step_store_blk (H5.out.get 0 rfl) 40 0 17 [.int .i64 r.n, .int .i64 (fr 0), .int .i64 (fr 1), .int .i64 (fr 2), .int .i64 (fr 3), .int .i64 (fr 4), .int .i64 (fr 5), .int .i64 (fr 6), .int .i64 (fr 7), .int .i64 r.lo, .int .i64 r.hi, .int .i64 r.f.t, .int .i64 r.f.v, .int .i64 r.f.s, .int .i64 r.l.t, .int .i64 r.l.v, .int .i64 r.l.s] rfl (by decide) (by kernel_rfl) (List.all_eq_true.1 rfl) rfl _ _ rfl rfl rfl ?_
            have HST := Lib.hid ((OwnR.of (n := 17) H5.out rfl).put [.int .i64 r.n, .int .i64 (fr 0), .int .i64 (fr 1), .int .i64 (fr 2), .int .i64 (fr 3), .int .i64 (fr 4), .int .i64 (fr 5), .int .i64 (fr 6), .int .i64 (fr 7), .int .i64 r.lo, .int .i64 r.hi, .int .i64 r.f.t, .int .i64 r.f.v, .int .i64 r.f.s, .int .i64 r.l.t, .int .i64 r.l.v, .int .i64 r.l.s] rfl)
            refine HK.out.to (fun w' => Own w [(y9, 40, #[.int .i64 r.n, .int .i64 (fr 0), .int .i64 (fr 1), .int .i64 (fr 2), .int .i64 (fr 3), .int .i64 (fr 4), .int .i64 (fr 5), .int .i64 (fr 6), .int .i64 (fr 7), .int .i64 r.lo, .int .i64 r.hi, .int .i64 r.f.t, .int .i64 r.f.v, .int .i64 r.f.s, .int .i64 r.l.t, .int .i64 r.l.v, .int .i64 r.l.s]), (y7, 29, #[.int .i64 r.n, .int .i64 (hiOf r.s), .int .u64 (loOf r.s), .int .i64 r.lo, .int .i64 r.hi, .int .i64 r.f.t, .int .i64 r.f.v, .int .i64 r.f.s, .int .i64 r.l.t, .int .i64 r.l.v, .int .i64 r.l.s]), (x, 29, #[.int .i64 a.n, .int .i64 (hiOf a.s), .int .u64 (loOf a.s), .int .i64 a.lo, .int .i64 a.hi, .int .i64 a.f.t, .int .i64 a.f.v, .int .i64 a.f.s, .int .i64 a.l.t, .int .i64 a.l.v, .int .i64 a.l.s]), (x + 1, 29, #[.int .i64 b.n, .int .i64 (hiOf b.s), .int .u64 (loOf b.s), .int .i64 b.lo, .int .i64 b.hi, .int .i64 b.f.t, .int .i64 b.f.v, .int .i64 b.f.s, .int .i64 b.l.t, .int .i64 b.l.v, .int .i64 b.l.s])] w') (fun _ h => h.drop1) (HST.out) ?_
            clear HK hS
            have hS : (fun w' => Own w [(y9, 40, #[.int .i64 r.n, .int .i64 (fr 0), .int .i64 (fr 1), .int .i64 (fr 2), .int .i64 (fr 3), .int .i64 (fr 4), .int .i64 (fr 5), .int .i64 (fr 6), .int .i64 (fr 7), .int .i64 r.lo, .int .i64 r.hi, .int .i64 r.f.t, .int .i64 r.f.v, .int .i64 r.f.s, .int .i64 r.l.t, .int .i64 r.l.v, .int .i64 r.l.s]), (y7, 29, #[.int .i64 r.n, .int .i64 (hiOf r.s), .int .u64 (loOf r.s), .int .i64 r.lo, .int .i64 r.hi, .int .i64 r.f.t, .int .i64 r.f.v, .int .i64 r.f.s, .int .i64 r.l.t, .int .i64 r.l.v, .int .i64 r.l.s]), (x, 29, #[.int .i64 a.n, .int .i64 (hiOf a.s), .int .u64 (loOf a.s), .int .i64 a.lo, .int .i64 a.hi, .int .i64 a.f.t, .int .i64 a.f.v, .int .i64 a.f.s, .int .i64 a.l.t, .int .i64 a.l.v, .int .i64 a.l.s]), (x + 1, 29, #[.int .i64 b.n, .int .i64 (hiOf b.s), .int .u64 (loOf b.s), .int .i64 b.lo, .int .i64 b.hi, .int .i64 b.f.t, .int .i64 b.f.v, .int .i64 b.f.s, .int .i64 b.l.t, .int .i64 b.l.v, .int .i64 b.l.s])] w') (setFrom w5 y9 0 [.int .i64 r.n, .int .i64 (fr 0), .int .i64 (fr 1), .int .i64 (fr 2), .int .i64 (fr 3), .int .i64 (fr 4), .int .i64 (fr 5), .int .i64 (fr 6), .int .i64 (fr 7), .int .i64 r.lo, .int .i64 r.hi, .int .i64 r.f.t, .int .i64 r.f.v, .int .i64 r.f.s, .int .i64 r.l.t, .int .i64 r.l.v, .int .i64 r.l.s]) := HST.out
            try simp only [List.getElem_toArray, List.getElem_cons_succ, List.getElem_cons_zero, Act.put, List.setIfInBounds_toArray, List.set_cons_zero, List.set_cons_succ]
            refine reg_take (i := 10) (v := ?_) rfl (by kernel_rfl) (by kernel_rfl) (by kernel_rfl) (fun _ _ _ h => h) (Or.inl ⟨by kernel_rfl, ?_⟩) hS ?_
            rotate_left
            · (intro w' hSw; go_simp <;> with_reducible rfl)
            try simp only [List.getElem_toArray, List.getElem_cons_succ, List.getElem_cons_zero, Act.put, List.setIfInBounds_toArray, List.set_cons_zero, List.set_cons_succ]
            refine wpAnyH_done (by kernel_rfl) ?_ _
            try simp only [List.getElem_toArray, List.getElem_cons_succ, List.getElem_cons_zero]
            try simp only [List.getElem_toArray, List.getElem_cons_succ, List.getElem_cons_zero, Act.put, List.setIfInBounds_toArray, List.set_cons_zero, List.set_cons_succ]
            clear hS
            go_wp2_with fail
            go_meet
            exact ⟨y9, rfl, rfl, HST.out⟩
        · skip
          have HK := Lib.hid hK
          clear hK
          go_simp
          obtain ⟨y9, hy9⟩ : ∃ y, y = w3.heap.size := ⟨_, rfl⟩
          have HAL := Lib.hid ((H3.out.alloc hy9 40 #[.int .i64 0, .int .i64 0, .int .i64 0, .int .i64 0, .int .i64 0, .int .i64 0, .int .i64 0, .int .i64 0, .int .i64 0, .int .i64 0, .int .i64 0, .int .i64 0, .int .i64 0, .int .i64 0, .int .i64 0, .int .i64 0, .int .i64 0]).front 3 rfl)
          rw [← hy9]
          clear hy9
          go_wp2_with fail
          refine HK.out.to (Own w [(y7, 29, #[.int .i64 r.n, .int .i64 (hiOf r.s), .int .u64 (loOf r.s), .int .i64 r.lo, .int .i64 r.hi, .int .i64 r.f.t, .int .i64 r.f.v, .int .i64 r.f.s, .int .i64 r.l.t, .int .i64 r.l.v, .int .i64 r.l.s]), (x, 29, #[.int .i64 a.n, .int .i64 (hiOf a.s), .int .u64 (loOf a.s), .int .i64 a.lo, .int .i64 a.hi, .int .i64 a.f.t, .int .i64 a.f.v, .int .i64 a.f.s, .int .i64 a.l.t, .int .i64 a.l.v, .int .i64 a.l.s]), (x + 1, 29, #[.int .i64 b.n, .int .i64 (hiOf b.s), .int .u64 (loOf b.s), .int .i64 b.lo, .int .i64 b.hi, .int .i64 b.f.t, .int .i64 b.f.v, .int .i64 b.f.s, .int .i64 b.l.t, .int .i64 b.l.v, .int .i64 b.l.s])]) (fun _ h => h) (HAL.out.drop1) ?_
          clear HK hS
          have hS : (Own w [(y7, 29, #[.int .i64 r.n, .int .i64 (hiOf r.s), .int .u64 (loOf r.s), .int .i64 r.lo, .int .i64 r.hi, .int .i64 r.f.t, .int .i64 r.f.v, .int .i64 r.f.s, .int .i64 r.l.t, .int .i64 r.l.v, .int .i64 r.l.s]), (x, 29, #[.int .i64 a.n, .int .i64 (hiOf a.s), .int .u64 (loOf a.s), .int .i64 a.lo, .int .i64 a.hi, .int .i64 a.f.t, .int .i64 a.f.v, .int .i64 a.f.s, .int .i64 a.l.t, .int .i64 a.l.v, .int .i64 a.l.s]), (x + 1, 29, #[.int .i64 b.n, .int .i64 (hiOf b.s), .int .u64 (loOf b.s), .int .i64 b.lo, .int .i64 b.hi, .int .i64 b.f.t, .int .i64 b.f.v, .int .i64 b.f.s, .int .i64 b.l.t, .int .i64 b.l.v, .int .i64 b.l.s])]) (w3.alloc (.cells #[.int .i64 0, .int .i64 0, .int .i64 0, .int .i64 0, .int .i64 0, .int .i64 0, .int .i64 0, .int .i64 0, .int .i64 0, .int .i64 0, .int .i64 0, .int .i64 0, .int .i64 0, .int .i64 0, .int .i64 0, .int .i64 0, .int .i64 0] 40)) := HAL.out.drop1
          try simp only [List.getElem_toArray, List.getElem_cons_succ, List.getElem_cons_zero, Act.put, List.setIfInBounds_toArray, List.set_cons_zero, List.set_cons_succ]
          refine reg_call (i := 3) rfl (by kernel_rfl) (fun K hK => ?_)
          have HK := Lib.hid hK
          clear hK
          go_simp
          refine (HOB.out _).mono ?_
          rintro e w4 ⟨rfl, h4⟩
          have H4 := Lib.hid (HAL.out.call h4)
          clear h4
          go_wp2_with fail
          refine HK.out.to (Own w [(y7, 29, #[.int .i64 r.n, .int .i64 (hiOf r.s), .int .u64 (loOf r.s), .int .i64 r.lo, .int .i64 r.hi, .int .i64 r.f.t, .int .i64 r.f.v, .int .i64 r.f.s, .int .i64 r.l.t, .int .i64 r.l.v, .int .i64 r.l.s]), (x, 29, #[.int .i64 a.n, .int .i64 (hiOf a.s), .int .u64 (loOf a.s), .int .i64 a.lo, .int .i64 a.hi, .int .i64 a.f.t, .int .i64 a.f.v, .int .i64 a.f.s, .int .i64 a.l.t, .int .i64 a.l.v, .int .i64 a.l.s]), (x + 1, 29, #[.int .i64 b.n, .int .i64 (hiOf b.s), .int .u64 (loOf b.s), .int .i64 b.lo, .int .i64 b.hi, .int .i64 b.f.t, .int .i64 b.f.v, .int .i64 b.f.s, .int .i64 b.l.t, .int .i64 b.l.v, .int .i64 b.l.s])]) (fun _ h => h) (H4.out.drop1) ?_
          clear HK hS
          have hS : (Own w [(y7, 29, #[.int .i64 r.n, .int .i64 (hiOf r.s), .int .u64 (loOf r.s), .int .i64 r.lo, .int .i64 r.hi, .int .i64 r.f.t, .int .i64 r.f.v, .int .i64 r.f.s, .int .i64 r.l.t, .int .i64 r.l.v, .int .i64 r.l.s]), (x, 29, #[.int .i64 a.n, .int .i64 (hiOf a.s), .int .u64 (loOf a.s), .int .i64 a.lo, .int .i64 a.hi, .int .i64 a.f.t, .int .i64 a.f.v, .int .i64 a.f.s, .int .i64 a.l.t, .int .i64 a.l.v, .int .i64 a.l.s]), (x + 1, 29, #[.int .i64 b.n, .int .i64 (hiOf b.s), .int .u64 (loOf b.s), .int .i64 b.lo, .int .i64 b.hi, .int .i64 b.f.t, .int .i64 b.f.v, .int .i64 b.f.s, .int .i64 b.l.t, .int .i64 b.l.v, .int .i64 b.l.s])]) (w4) := H4.out.drop1
          try simp only [List.getElem_toArray, List.getElem_cons_succ, List.getElem_cons_zero, Act.put, List.setIfInBounds_toArray, List.set_cons_zero, List.set_cons_succ]
          refine reg_call (i := 4) rfl (by kernel_rfl) (fun K hK => ?_)
          have HK := Lib.hid hK
          clear hK
          go_simp
          refine (HRM.out _).mono ?_
          rintro e w5 ⟨rfl, h5⟩
          have H5 := Lib.hid (H4.out.call h5)
          clear h5
          go_wp2_with fail
          refine HK.out.to (Own w [(y7, 29, #[.int .i64 r.n, .int .i64 (hiOf r.s), .int .u64 (loOf r.s), .int .i64 r.lo, .int .i64 r.hi, .int .i64 r.f.t, .int .i64 r.f.v, .int .i64 r.f.s, .int .i64 r.l.t, .int .i64 r.l.v, .int .i64 r.l.s]), (x, 29, #[.int .i64 a.n, .int .i64 (hiOf a.s), .int .u64 (loOf a.s), .int .i64 a.lo, .int .i64 a.hi, .int .i64 a.f.t, .int .i64 a.f.v, .int .i64 a.f.s, .int .i64 a.l.t, .int .i64 a.l.v, .int .i64 a.l.s]), (x + 1, 29, #[.int .i64 b.n, .int .i64 (hiOf b.s), .int .u64 (loOf b.s), .int .i64 b.lo, .int .i64 b.hi, .int .i64 b.f.t, .int .i64 b.f.v, .int .i64 b.f.s, .int .i64 b.l.t, .int .i64 b.l.v, .int .i64 b.l.s])]) (fun _ h => h) (H5.out.drop1) ?_
          clear HK hS
          have hS : (Own w [(y7, 29, #[.int .i64 r.n, .int .i64 (hiOf r.s), .int .u64 (loOf r.s), .int .i64 r.lo, .int .i64 r.hi, .int .i64 r.f.t, .int .i64 r.f.v, .int .i64 r.f.s, .int .i64 r.l.t, .int .i64 r.l.v, .int .i64 r.l.s]), (x, 29, #[.int .i64 a.n, .int .i64 (hiOf a.s), .int .u64 (loOf a.s), .int .i64 a.lo, .int .i64 a.hi, .int .i64 a.f.t, .int .i64 a.f.v, .int .i64 a.f.s, .int .i64 a.l.t, .int .i64 a.l.v, .int .i64 a.l.s]), (x + 1, 29, #[.int .i64 b.n, .int .i64 (hiOf b.s), .int .u64 (loOf b.s), .int .i64 b.lo, .int .i64 b.hi, .int .i64 b.f.t, .int .i64 b.f.v, .int .i64 b.f.s, .int .i64 b.l.t, .int .i64 b.l.v, .int .i64 b.l.s])]) (w5) := H5.out.drop1
          try simp only [List.getElem_toArray, List.getElem_cons_succ, List.getElem_cons_zero, Act.put, List.setIfInBounds_toArray, List.set_cons_zero, List.set_cons_succ]
          refine reg_take (i := 5) (v := ?_) rfl (by kernel_rfl) (by kernel_rfl) (by kernel_rfl) (fun _ _ _ h => h) (Or.inl ⟨by kernel_rfl, ?_⟩) hS ?_
          rotate_left
          · (intro w' hSw; go_simp <;> with_reducible rfl)
          try simp only [List.getElem_toArray, List.getElem_cons_succ, List.getElem_cons_zero, Act.put, List.setIfInBounds_toArray, List.set_cons_zero, List.set_cons_succ]
          refine reg_take (i := 6) (v := ?_) rfl (by kernel_rfl) (by kernel_rfl) (by kernel_rfl) (fun _ _ _ h => h) (Or.inl ⟨by kernel_rfl, ?_⟩) hS ?_
          rotate_left
          · (intro w' hSw; go_simp <;> with_reducible rfl)
          try simp only [List.getElem_toArray, List.getElem_cons_succ, List.getElem_cons_zero, Act.put, List.setIfInBounds_toArray, List.set_cons_zero, List.set_cons_succ]
          refine reg_take (i := 7) (v := ?_) rfl (by kernel_rfl) (by kernel_rfl) (by kernel_rfl) (fun _ _ _ h => h) (Or.inl ⟨by kernel_rfl, ?_⟩) hS ?_
          rotate_left
          · (intro w' hSw; go_simp <;> with_reducible rfl)
          try simp only [List.getElem_toArray, List.getElem_cons_succ, List.getElem_cons_zero, Act.put, List.setIfInBounds_toArray, List.set_cons_zero, List.set_cons_succ]
          refine reg_call (i := 9) rfl (by kernel_rfl) (fun K hK => ?_)
          have HK := Lib.hid hK
          clear hK
          refine step_store_blk (H5.out.get 0 rfl) 40 0 17 [.int .i64 r.n, .int .i64 (fr 0), .int .i64 (fr 1), .int .i64 (fr 2), .int .i64 (fr 3), .int .i64 (fr 4), .int .i64 (fr 5), .int .i64 (fr 6), .int .i64 (fr 7), .int .i64 r.lo, .int .i64 r.hi, .int .i64 r.f.t, .int .i64 r.f.v, .int .i64 r.f.s, .int .i64 r.l.t, .int .i64 r.l.v, .int .i64 r.l.s] rfl (by decide) (by kernel_rfl) (List.all_eq_true.1 rfl) rfl _ _ rfl rfl rfl ?_
          have HST := Lib.hid ((OwnR.of (n := 17) H5.out rfl).put [.int .i64 r.n, .int .i64 (fr 0), .int .i64 (fr 1), .int .i64 (fr 2), .int .i64 (fr 3), .int .i64 (fr 4), .int .i64 (fr 5), .int .i64 (fr 6), .int .i64 (fr 7), .int .i64 r.lo, .int .i64 r.hi, .int .i64 r.f.t, .int .i64 r.f.v, .int .i64 r.f.s, .int .i64 r.l.t, .int .i64 r.l.v, .int .i64 r.l.s] rfl)
          refine HK.out.to (fun w' => Own w [(y9, 40, #[.int .i64 r.n, .int .i64 (fr 0), .int .i64 (fr 1), .int .i64 (fr 2), .int .i64 (fr 3), .int .i64 (fr 4), .int .i64 (fr 5), .int .i64 (fr 6), .int .i64 (fr 7), .int .i64 r.lo, .int .i64 r.hi, .int .i64 r.f.t, .int .i64 r.f.v, .int .i64 r.f.s, .int .i64 r.l.t, .int .i64 r.l.v, .int .i64 r.l.s]), (y7, 29, #[.int .i64 r.n, .int .i64 (hiOf r.s), .int .u64 (loOf r.s), .int .i64 r.lo, .int .i64 r.hi, .int .i64 r.f.t, .int .i64 r.f.v, .int .i64 r.f.s, .int .i64 r.l.t, .int .i64 r.l.v, .int .i64 r.l.s]), (x, 29, #[.int .i64 a.n, .int .i64 (hiOf a.s), .int .u64 (loOf a.s), .int .i64 a.lo, .int .i64 a.hi, .int .i64 a.f.t, .int .i64 a.f.v, .int .i64 a.f.s, .int .i64 a.l.t, .int .i64 a.l.v, .int .i64 a.l.s]), (x + 1, 29, #[.int .i64 b.n, .int .i64 (hiOf b.s), .int .u64 (loOf b.s), .int .i64 b.lo, .int .i64 b.hi, .int .i64 b.f.t, .int .i64 b.f.v, .int .i64 b.f.s, .int .i64 b.l.t, .int .i64 b.l.v, .int .i64 b.l.s])] w') (fun _ h => h.drop1) (HST.out) ?_
          clear HK hS
          have hS : (fun w' => Own w [(y9, 40, #[.int .i64 r.n, .int .i64 (fr 0), .int .i64 (fr 1), .int .i64 (fr 2), .int .i64 (fr 3), .int .i64 (fr 4), .int .i64 (fr 5), .int .i64 (fr 6), .int .i64 (fr 7), .int .i64 r.lo, .int .i64 r.hi, .int .i64 r.f.t, .int .i64 r.f.v, .int .i64 r.f.s, .int .i64 r.l.t, .int .i64 r.l.v, .int .i64 r.l.s]), (y7, 29, #[.int .i64 r.n, .int .i64 (hiOf r.s), .int .u64 (loOf r.s), .int .i64 r.lo, .int .i64 r.hi, .int .i64 r.f.t, .int .i64 r.f.v, .int .i64 r.f.s, .int .i64 r.l.t, .int .i64 r.l.v, .int .i64 r.l.s]), (x, 29, #[.int .i64 a.n, .int .i64 (hiOf a.s), .int .u64 (loOf a.s), .int .i64 a.lo, .int .i64 a.hi, .int .i64 a.f.t, .int .i64 a.f.v, .int .i64 a.f.s, .int .i64 a.l.t, .int .i64 a.l.v, .int .i64 a.l.s]), (x + 1, 29, #[.int .i64 b.n, .int .i64 (hiOf b.s), .int .u64 (loOf b.s), .int .i64 b.lo, .int .i64 b.hi, .int .i64 b.f.t, .int .i64 b.f.v, .int .i64 b.f.s, .int .i64 b.l.t, .int .i64 b.l.v, .int .i64 b.l.s])] w') (setFrom w5 y9 0 [.int .i64 r.n, .int .i64 (fr 0), .int .i64 (fr 1), .int .i64 (fr 2), .int .i64 (fr 3), .int .i64 (fr 4), .int .i64 (fr 5), .int .i64 (fr 6), .int .i64 (fr 7), .int .i64 r.lo, .int .i64 r.hi, .int .i64 r.f.t, .int .i64 r.f.v, .int .i64 r.f.s, .int .i64 r.l.t, .int .i64 r.l.v, .int .i64 r.l.s]) := HST.out
          try simp only [List.getElem_toArray, List.getElem_cons_succ, List.getElem_cons_zero, Act.put, List.setIfInBounds_toArray, List.set_cons_zero, List.set_cons_succ]
          refine reg_take (i := 10) (v := ?_) rfl (by kernel_rfl) (by kernel_rfl) (by kernel_rfl) (fun _ _ _ h => h) (Or.inl ⟨by kernel_rfl, ?_⟩) hS ?_
          rotate_left
          · (intro w' hSw; go_simp <;> with_reducible rfl)
          try simp only [List.getElem_toArray, List.getElem_cons_succ, List.getElem_cons_zero, Act.put, List.setIfInBounds_toArray, List.set_cons_zero, List.set_cons_succ]
          refine wpAnyH_done (by kernel_rfl) ?_ _
          try simp only [List.getElem_toArray, List.getElem_cons_succ, List.getElem_cons_zero]
          try simp only [List.getElem_toArray, List.getElem_cons_succ, List.getElem_cons_zero, Act.put, List.setIfInBounds_toArray, List.set_cons_zero, List.set_cons_succ]
          clear hS
          go_wp2_with fail
          go_meet
          exact ⟨y9, rfl, rfl, HST.out⟩
      · skip
        have HK := Lib.hid hK
        clear hK
        go_simp
        obtain ⟨y9, hy9⟩ : ∃ y, y = wd.heap.size := ⟨_, rfl⟩
        have HAL := Lib.hid ((HD.out.alloc hy9 40 #[.int .i64 0, .int .i64 0, .int .i64 0, .int .i64 0, .int .i64 0, .int .i64 0, .int .i64 0, .int .i64 0, .int .i64 0, .int .i64 0, .int .i64 0, .int .i64 0, .int .i64 0, .int .i64 0, .int .i64 0, .int .i64 0, .int .i64 0]).front 3 rfl)
        rw [← hy9]
        clear hy9
        go_wp2_with fail
        refine HK.out.to (Own w [(y7, 29, #[.int .i64 r.n, .int .i64 (hiOf r.s), .int .u64 (loOf r.s), .int .i64 r.lo, .int .i64 r.hi, .int .i64 r.f.t, .int .i64 r.f.v, .int .i64 r.f.s, .int .i64 r.l.t, .int .i64 r.l.v, .int .i64 r.l.s]), (x, 29, #[.int .i64 a.n, .int .i64 (hiOf a.s), .int .u64 (loOf a.s), .int .i64 a.lo, .int .i64 a.hi, .int .i64 a.f.t, .int .i64 a.f.v, .int .i64 a.f.s, .int .i64 a.l.t, .int .i64 a.l.v, .int .i64 a.l.s]), (x + 1, 29, #[.int .i64 b.n, .int .i64 (hiOf b.s), .int .u64 (loOf b.s), .int .i64 b.lo, .int .i64 b.hi, .int .i64 b.f.t, .int .i64 b.f.v, .int .i64 b.f.s, .int .i64 b.l.t, .int .i64 b.l.v, .int .i64 b.l.s])]) (fun _ h => h) (HAL.out.drop1) ?_
        clear HK hS
        have hS : (Own w [(y7, 29, #[.int .i64 r.n, .int .i64 (hiOf r.s), .int .u64 (loOf r.s), .int .i64 r.lo, .int .i64 r.hi, .int .i64 r.f.t, .int .i64 r.f.v, .int .i64 r.f.s, .int .i64 r.l.t, .int .i64 r.l.v, .int .i64 r.l.s]), (x, 29, #[.int .i64 a.n, .int .i64 (hiOf a.s), .int .u64 (loOf a.s), .int .i64 a.lo, .int .i64 a.hi, .int .i64 a.f.t, .int .i64 a.f.v, .int .i64 a.f.s, .int .i64 a.l.t, .int .i64 a.l.v, .int .i64 a.l.s]), (x + 1, 29, #[.int .i64 b.n, .int .i64 (hiOf b.s), .int .u64 (loOf b.s), .int .i64 b.lo, .int .i64 b.hi, .int .i64 b.f.t, .int .i64 b.f.v, .int .i64 b.f.s, .int .i64 b.l.t, .int .i64 b.l.v, .int .i64 b.l.s])]) (wd.alloc (.cells #[.int .i64 0, .int .i64 0, .int .i64 0, .int .i64 0, .int .i64 0, .int .i64 0, .int .i64 0, .int .i64 0, .int .i64 0, .int .i64 0, .int .i64 0, .int .i64 0, .int .i64 0, .int .i64 0, .int .i64 0, .int .i64 0, .int .i64 0] 40)) := HAL.out.drop1
        try simp only [List.getElem_toArray, List.getElem_cons_succ, List.getElem_cons_zero, Act.put, List.setIfInBounds_toArray, List.set_cons_zero, List.set_cons_succ]
        refine reg_call (i := 1) rfl (by kernel_rfl) (fun K hK => ?_)
        have HK := Lib.hid hK
        clear hK
        go_simp
        refine (HOA.out _).mono ?_
        rintro e w3 ⟨rfl, h3⟩
        have H3 := Lib.hid (HAL.out.call h3)
        clear h3
        go_wp2_with fail
        refine HK.out.to (Own w [(y7, 29, #[.int .i64 r.n, .int .i64 (hiOf r.s), .int .u64 (loOf r.s), .int .i64 r.lo, .int .i64 r.hi, .int .i64 r.f.t, .int .i64 r.f.v, .int .i64 r.f.s, .int .i64 r.l.t, .int .i64 r.l.v, .int .i64 r.l.s]), (x, 29, #[.int .i64 a.n, .int .i64 (hiOf a.s), .int .u64 (loOf a.s), .int .i64 a.lo, .int .i64 a.hi, .int .i64 a.f.t, .int .i64 a.f.v, .int .i64 a.f.s, .int .i64 a.l.t, .int .i64 a.l.v, .int .i64 a.l.s]), (x + 1, 29, #[.int .i64 b.n, .int .i64 (hiOf b.s), .int .u64 (loOf b.s), .int .i64 b.lo, .int .i64 b.hi, .int .i64 b.f.t, .int .i64 b.f.v, .int .i64 b.f.s, .int .i64 b.l.t, .int .i64 b.l.v, .int .i64 b.l.s])]) (fun _ h => h) (H3.out.drop1) ?_
        clear HK hS
        have hS : (Own w [(y7, 29, #[.int .i64 r.n, .int .i64 (hiOf r.s), .int .u64 (loOf r.s), .int .i64 r.lo, .int .i64 r.hi, .int .i64 r.f.t, .int .i64 r.f.v, .int .i64 r.f.s, .int .i64 r.l.t, .int .i64 r.l.v, .int .i64 r.l.s]), (x, 29, #[.int .i64 a.n, .int .i64 (hiOf a.s), .int .u64 (loOf a.s), .int .i64 a.lo, .int .i64 a.hi, .int .i64 a.f.t, .int .i64 a.f.v, .int .i64 a.f.s, .int .i64 a.l.t, .int .i64 a.l.v, .int .i64 a.l.s]), (x + 1, 29, #[.int .i64 b.n, .int .i64 (hiOf b.s), .int .u64 (loOf b.s), .int .i64 b.lo, .int .i64 b.hi, .int .i64 b.f.t, .int .i64 b.f.v, .int .i64 b.f.s, .int .i64 b.l.t, .int .i64 b.l.v, .int .i64 b.l.s])]) (w3) := H3.out.drop1
        try simp only [List.getElem_toArray, List.getElem_cons_succ, List.getElem_cons_zero, Act.put, List.setIfInBounds_toArray, List.set_cons_zero, List.set_cons_succ]
        refine reg_call (i := 3) rfl (by kernel_rfl) (fun K hK => ?_)
        have HK := Lib.hid hK
        clear hK
        go_simp
        refine (HOB.out _).mono ?_
        rintro e w4 ⟨rfl, h4⟩
        have H4 := Lib.hid (H3.out.call h4)
        clear h4
        go_wp2_with fail
        refine HK.out.to (Own w [(y7, 29, #[.int .i64 r.n, .int .i64 (hiOf r.s), .int .u64 (loOf r.s), .int .i64 r.lo, .int .i64 r.hi, .int .i64 r.f.t, .int .i64 r.f.v, .int .i64 r.f.s, .int .i64 r.l.t, .int .i64 r.l.v, .int .i64 r.l.s]), (x, 29, #[.int .i64 a.n, .int .i64 (hiOf a.s), .int .u64 (loOf a.s), .int .i64 a.lo, .int .i64 a.hi, .int .i64 a.f.t, .int .i64 a.f.v, .int .i64 a.f.s, .int .i64 a.l.t, .int .i64 a.l.v, .int .i64 a.l.s]), (x + 1, 29, #[.int .i64 b.n, .int .i64 (hiOf b.s), .int .u64 (loOf b.s), .int .i64 b.lo, .int .i64 b.hi, .int .i64 b.f.t, .int .i64 b.f.v, .int .i64 b.f.s, .int .i64 b.l.t, .int .i64 b.l.v, .int .i64 b.l.s])]) (fun _ h => h) (H4.out.drop1) ?_
        clear HK hS
        have hS : (Own w [(y7, 29, #[.int .i64 r.n, .int .i64 (hiOf r.s), .int .u64 (loOf r.s), .int .i64 r.lo, .int .i64 r.hi, .int .i64 r.f.t, .int .i64 r.f.v, .int .i64 r.f.s, .int .i64 r.l.t, .int .i64 r.l.v, .int .i64 r.l.s]), (x, 29, #[.int .i64 a.n, .int .i64 (hiOf a.s), .int .u64 (loOf a.s), .int .i64 a.lo, .int .i64 a.hi, .int .i64 a.f.t, .int .i64 a.f.v, .int .i64 a.f.s, .int .i64 a.l.t, .int .i64 a.l.v, .int .i64 a.l.s]), (x + 1, 29, #[.int .i64 b.n, .int .i64 (hiOf b.s), .int .u64 (loOf b.s), .int .i64 b.lo, .int .i64 b.hi, .int .i64 b.f.t, .int .i64 b.f.v, .int .i64 b.f.s, .int .i64 b.l.t, .int .i64 b.l.v, .int .i64 b.l.s])]) (w4) := H4.out.drop1
        try simp only [List.getElem_toArray, List.getElem_cons_succ, List.getElem_cons_zero, Act.put, List.setIfInBounds_toArray, List.set_cons_zero, List.set_cons_succ]
        refine reg_call (i := 4) rfl (by kernel_rfl) (fun K hK => ?_)
        have HK := Lib.hid hK
        clear hK
        go_simp
        refine (HRM.out _).mono ?_
        rintro e w5 ⟨rfl, h5⟩
        have H5 := Lib.hid (H4.out.call h5)
        clear h5
        go_wp2_with fail
        refine HK.out.to (Own w [(y7, 29, #[.int .i64 r.n, .int .i64 (hiOf r.s), .int .u64 (loOf r.s), .int .i64 r.lo, .int .i64 r.hi, .int .i64 r.f.t, .int .i64 r.f.v, .int .i64 r.f.s, .int .i64 r.l.t, .int .i64 r.l.v, .int .i64 r.l.s]), (x, 29, #[.int .i64 a.n, .int .i64 (hiOf a.s), .int .u64 (loOf a.s), .int .i64 a.lo, .int .i64 a.hi, .int .i64 a.f.t, .int .i64 a.f.v, .int .i64 a.f.s, .int .i64 a.l.t, .int .i64 a.l.v, .int .i64 a.l.s]), (x + 1, 29, #[.int .i64 b.n, .int .i64 (hiOf b.s), .int .u64 (loOf b.s), .int .i64 b.lo, .int .i64 b.hi, .int .i64 b.f.t, .int .i64 b.f.v, .int .i64 b.f.s, .int .i64 b.l.t, .int .i64 b.l.v, .int .i64 b.l.s])]) (fun _ h => h) (H5.out.drop1) ?_
        clear HK hS
        have hS : (Own w [(y7, 29, #[.int .i64 r.n, .int .i64 (hiOf r.s), .int .u64 (loOf r.s), .int .i64 r.lo, .int .i64 r.hi, .int .i64 r.f.t, .int .i64 r.f.v, .int .i64 r.f.s, .int .i64 r.l.t, .int .i64 r.l.v, .int .i64 r.l.s]), (x, 29, #[.int .i64 a.n, .int .i64 (hiOf a.s), .int .u64 (loOf a.s), .int .i64 a.lo, .int .i64 a.hi, .int .i64 a.f.t, .int .i64 a.f.v, .int .i64 a.f.s, .int .i64 a.l.t, .int .i64 a.l.v, .int .i64 a.l.s]), (x + 1, 29, #[.int .i64 b.n, .int .i64 (hiOf b.s), .int .u64 (loOf b.s), .int .i64 b.lo, .int .i64 b.hi, .int .i64 b.f.t, .int .i64 b.f.v, .int .i64 b.f.s, .int .i64 b.l.t, .int .i64 b.l.v, .int .i64 b.l.s])]) (w5) := H5.out.drop1
        try simp only [List.getElem_toArray, List.getElem_cons_succ, List.getElem_cons_zero, Act.put, List.setIfInBounds_toArray, List.set_cons_zero, List.set_cons_succ]
        refine reg_take (i := 5) (v := ?_) rfl (by kernel_rfl) (by kernel_rfl) (by kernel_rfl) (fun _ _ _ h => h) (Or.inl ⟨by kernel_rfl, ?_⟩) hS ?_
        rotate_left
        · (intro w' hSw; go_simp <;> with_reducible rfl)
        try simp only [List.getElem_toArray, List.getElem_cons_succ, List.getElem_cons_zero, Act.put, List.setIfInBounds_toArray, List.set_cons_zero, List.set_cons_succ]
        refine reg_take (i := 6) (v := ?_) rfl (by kernel_rfl) (by kernel_rfl) (by kernel_rfl) (fun _ _ _ h => h) (Or.inl ⟨by kernel_rfl, ?_⟩) hS ?_
        rotate_left
        · (intro w' hSw; go_simp <;> with_reducible rfl)
        try simp only [List.getElem_toArray, List.getElem_cons_succ, List.getElem_cons_zero, Act.put, List.setIfInBounds_toArray, List.set_cons_zero, List.set_cons_succ]
        refine reg_take (i := 7) (v := ?_) rfl (by kernel_rfl) (by kernel_rfl) (by kernel_rfl) (fun _ _ _ h => h) (Or.inl ⟨by kernel_rfl, ?_⟩) hS ?_
        rotate_left
        · (intro w' hSw; go_simp <;> with_reducible rfl)
        try simp only [List.getElem_toArray, List.getElem_cons_succ, List.getElem_cons_zero, Act.put, List.setIfInBounds_toArray, List.set_cons_zero, List.set_cons_succ]
        refine reg_call (i := 9) rfl (by kernel_rfl) (fun K hK => ?_)
        have HK := Lib.hid hK
        clear hK
        refine step_store_blk (H5.out.get 0 rfl) 40 0 17 [.int .i64 r.n, .int .i64 (fr 0), .int .i64 (fr 1), .int .i64 (fr 2), .int .i64 (fr 3), .int .i64 (fr 4), .int .i64 (fr 5), .int .i64 (fr 6), .int .i64 (fr 7), .int .i64 r.lo, .int .i64 r.hi, .int .i64 r.f.t, .int .i64 r.f.v, .int .i64 r.f.s, .int .i64 r.l.t, .int .i64 r.l.v, .int .i64 r.l.s] rfl (by decide) (by kernel_rfl) (List.all_eq_true.1 rfl) rfl _ _ rfl rfl rfl ?_
        have HST := Lib.hid ((OwnR.of (n := 17) H5.out rfl).put [.int .i64 r.n, .int .i64 (fr 0), .int .i64 (fr 1), .int .i64 (fr 2), .int .i64 (fr 3), .int .i64 (fr 4), .int .i64 (fr 5), .int .i64 (fr 6), .int .i64 (fr 7), .int .i64 r.lo, .int .i64 r.hi, .int .i64 r.f.t, .int .i64 r.f.v, .int .i64 r.f.s, .int .i64 r.l.t, .int .i64 r.l.v, .int .i64 r.l.s] rfl)
        refine HK.out.to (fun w' => Own w [(y9, 40, #[.int .i64 r.n, .int .i64 (fr 0), .int .i64 (fr 1), .int .i64 (fr 2), .int .i64 (fr 3), .int .i64 (fr 4), .int .i64 (fr 5), .int .i64 (fr 6), .int .i64 (fr 7), .int .i64 r.lo, .int .i64 r.hi, .int .i64 r.f.t, .int .i64 r.f.v, .int .i64 r.f.s, .int .i64 r.l.t, .int .i64 r.l.v, .int .i64 r.l.s]), (y7, 29, #[.int .i64 r.n, .int .i64 (hiOf r.s), .int .u64 (loOf r.s), .int .i64 r.lo, .int .i64 r.hi, .int .i64 r.f.t, .int .i64 r.f.v, .int .i64 r.f.s, .int .i64 r.l.t, .int .i64 r.l.v, .int .i64 r.l.s]), (x, 29, #[.int .i64 a.n, .int .i64 (hiOf a.s), .int .u64 (loOf a.s), .int .i64 a.lo, .int .i64 a.hi, .int .i64 a.f.t, .int .i64 a.f.v, .int .i64 a.f.s, .int .i64 a.l.t, .int .i64 a.l.v, .int .i64 a.l.s]), (x + 1, 29, #[.int .i64 b.n, .int .i64 (hiOf b.s), .int .u64 (loOf b.s), .int .i64 b.lo, .int .i64 b.hi, .int .i64 b.f.t, .int .i64 b.f.v, .int .i64 b.f.s, .int .i64 b.l.t, .int .i64 b.l.v, .int .i64 b.l.s])] w') (fun _ h => h.drop1) (HST.out) ?_
        clear HK hS
        have hS : (fun w' => Own w [(y9, 40, #[.int .i64 r.n, .int .i64 (fr 0), .int .i64 (fr 1), .int .i64 (fr 2), .int .i64 (fr 3), .int .i64 (fr 4), .int .i64 (fr 5), .int .i64 (fr 6), .int .i64 (fr 7), .int .i64 r.lo, .int .i64 r.hi, .int .i64 r.f.t, .int .i64 r.f.v, .int .i64 r.f.s, .int .i64 r.l.t, .int .i64 r.l.v, .int .i64 r.l.s]), (y7, 29, #[.int .i64 r.n, .int .i64 (hiOf r.s), .int .u64 (loOf r.s), .int .i64 r.lo, .int .i64 r.hi, .int .i64 r.f.t, .int .i64 r.f.v, .int .i64 r.f.s, .int .i64 r.l.t, .int .i64 r.l.v, .int .i64 r.l.s]), (x, 29, #[.int .i64 a.n, .int .i64 (hiOf a.s), .int .u64 (loOf a.s), .int .i64 a.lo, .int .i64 a.hi, .int .i64 a.f.t, .int .i64 a.f.v, .int .i64 a.f.s, .int .i64 a.l.t, .int .i64 a.l.v, .int .i64 a.l.s]), (x + 1, 29, #[.int .i64 b.n, .int .i64 (hiOf b.s), .int .u64 (loOf b.s), .int .i64 b.lo, .int .i64 b.hi, .int .i64 b.f.t, .int .i64 b.f.v, .int .i64 b.f.s, .int .i64 b.l.t, .int .i64 b.l.v, .int .i64 b.l.s])] w') (setFrom w5 y9 0 [.int .i64 r.n, .int .i64 (fr 0), .int .i64 (fr 1), .int .i64 (fr 2), .int .i64 (fr 3), .int .i64 (fr 4), .int .i64 (fr 5), .int .i64 (fr 6), .int .i64 (fr 7), .int .i64 r.lo, .int .i64 r.hi, .int .i64 r.f.t, .int .i64 r.f.v, .int .i64 r.f.s, .int .i64 r.l.t, .int .i64 r.l.v, .int .i64 r.l.s]) := HST.out
        try simp only [List.getElem_toArray, List.getElem_cons_succ, List.getElem_cons_zero, Act.put, List.setIfInBounds_toArray, List.set_cons_zero, List.set_cons_succ]
        refine reg_take (i := 10) (v := ?_) rfl (by kernel_rfl) (by kernel_rfl) (by kernel_rfl) (fun _ _ _ h => h) (Or.inl ⟨by kernel_rfl, ?_⟩) hS ?_
        rotate_left
        · (intro w' hSw; go_simp <;> with_reducible rfl)
        try simp only [List.getElem_toArray, List.getElem_cons_succ, List.getElem_cons_zero, Act.put, List.setIfInBounds_toArray, List.set_cons_zero, List.set_cons_succ]
        refine wpAnyH_done (by kernel_rfl) ?_ _
        try simp only [List.getElem_toArray, List.getElem_cons_succ, List.getElem_cons_zero]
        try simp only [List.getElem_toArray, List.getElem_cons_succ, List.getElem_cons_zero, Act.put, List.setIfInBounds_toArray, List.set_cons_zero, List.set_cons_succ]
        clear hS
        go_wp2_with fail
        go_meet
        exact ⟨y9, rfl, rfl, HST.out⟩
    case rest =>
      obtain ⟨y9, rfl, rfl, hS⟩ := hcut
      have H4 := Lib.hid hS
      clear hS
      go_wp2_with fail
      refine (HPA.out _ H4.out.bel).mono ?_
      rintro e w5 ⟨rfl, hb5⟩
      obtain ⟨y11, hy⟩ : ∃ y, y = w5.heap.size := ⟨_, rfl⟩
      have h1 := ((H4.out.call hb5).take 3).alloc hy 29 #[.int .i64 z.n, .int .i64 (hiOf z.s), .int .u64 (loOf z.s), .int .i64 z.lo, .int .i64 z.hi, .int .i64 z.f.t, .int .i64 z.f.v, .int .i64 z.f.s, .int .i64 z.l.t, .int .i64 z.l.v, .int .i64 z.l.s]
      have H5 := Lib.hid (And.intro hy (h1.front 3 rfl))
      clear hy h1 hb5
      go_upto_region 6 with (fail)
      rw [← H5.out.1]
      refine wp_gen (Own w [(y11, 29, #[.int .i64 z.n, .int .i64 (hiOf z.s), .int .u64 (loOf z.s), .int .i64 z.lo, .int .i64 z.hi, .int .i64 z.f.t, .int .i64 z.f.v, .int .i64 z.f.s, .int .i64 z.l.t, .int .i64 z.l.v, .int .i64 z.l.s]), (y9, 40, #[.int .i64 r.n, .int .i64 (fr 0), .int .i64 (fr 1), .int .i64 (fr 2), .int .i64 (fr 3), .int .i64 (fr 4), .int .i64 (fr 5), .int .i64 (fr 6), .int .i64 (fr 7), .int .i64 r.lo, .int .i64 r.hi, .int .i64 r.f.t, .int .i64 r.f.v, .int .i64 r.f.s, .int .i64 r.l.t, .int .i64 r.l.v, .int .i64 r.l.s]), (y7, 29, #[.int .i64 r.n, .int .i64 (hiOf r.s), .int .u64 (loOf r.s), .int .i64 r.lo, .int .i64 r.hi, .int .i64 r.f.t, .int .i64 r.f.v, .int .i64 r.f.s, .int .i64 r.l.t, .int .i64 r.l.v, .int .i64 r.l.s]), (x, 29, #[.int .i64 a.n, .int .i64 (hiOf a.s), .int .u64 (loOf a.s), .int .i64 a.lo, .int .i64 a.hi, .int .i64 a.f.t, .int .i64 a.f.v, .int .i64 a.f.s, .int .i64 a.l.t, .int .i64 a.l.v, .int .i64 a.l.s])]) H5.out.2 ?_
      intro w6 hS6
      have H6 := Lib.hid hS6
      clear hS6
      go_wp2_with fail
      refine (HRA.out _ H6.out.bel).mono ?_
      rintro e w7 ⟨rfl, hb7⟩
      obtain ⟨y13, hy⟩ : ∃ y, y = w7.heap.size := ⟨_, rfl⟩
      have h1 := ((H6.out.call hb7).alloc hy 40 #[.int .i64 z.n, .int .i64 (fz 0), .int .i64 (fz 1), .int .i64 (fz 2), .int .i64 (fz 3), .int .i64 (fz 4), .int .i64 (fz 5), .int .i64 (fz 6), .int .i64 (fz 7), .int .i64 z.lo, .int .i64 z.hi, .int .i64 z.f.t, .int .i64 z.f.v, .int .i64 z.f.s, .int .i64 z.l.t, .int .i64 z.l.v, .int .i64 z.l.s]).front 4 rfl
      have H7 := Lib.hid (And.intro hy h1)
      clear hy h1 hb7
      go_upto_region 7 with (fail)
      rw [← H7.out.1]
      refine wp_gen (Own w [(y13, 40, #[.int .i64 z.n, .int .i64 (fz 0), .int .i64 (fz 1), .int .i64 (fz 2), .int .i64 (fz 3), .int .i64 (fz 4), .int .i64 (fz 5), .int .i64 (fz 6), .int .i64 (fz 7), .int .i64 z.lo, .int .i64 z.hi, .int .i64 z.f.t, .int .i64 z.f.v, .int .i64 z.f.s, .int .i64 z.l.t, .int .i64 z.l.v, .int .i64 z.l.s]), (y11, 29, #[.int .i64 z.n, .int .i64 (hiOf z.s), .int .u64 (loOf z.s), .int .i64 z.lo, .int .i64 z.hi, .int .i64 z.f.t, .int .i64 z.f.v, .int .i64 z.f.s, .int .i64 z.l.t, .int .i64 z.l.v, .int .i64 z.l.s]), (y9, 40, #[.int .i64 r.n, .int .i64 (fr 0), .int .i64 (fr 1), .int .i64 (fr 2), .int .i64 (fr 3), .int .i64 (fr 4), .int .i64 (fr 5), .int .i64 (fr 6), .int .i64 (fr 7), .int .i64 r.lo, .int .i64 r.hi, .int .i64 r.f.t, .int .i64 r.f.v, .int .i64 r.f.s, .int .i64 r.l.t, .int .i64 r.l.v, .int .i64 r.l.s]), (y7, 29, #[.int .i64 r.n, .int .i64 (hiOf r.s), .int .u64 (loOf r.s), .int .i64 r.lo, .int .i64 r.hi, .int .i64 r.f.t, .int .i64 r.f.v, .int .i64 r.f.s, .int .i64 r.l.t, .int .i64 r.l.v, .int .i64 r.l.s]), (x, 29, #[.int .i64 a.n, .int .i64 (hiOf a.s), .int .u64 (loOf a.s), .int .i64 a.lo, .int .i64 a.hi, .int .i64 a.f.t, .int .i64 a.f.v, .int .i64 a.f.s, .int .i64 a.l.t, .int .i64 a.l.v, .int .i64 a.l.s])]) H7.out.2 ?_
      intro w8 hS8
      have hl0 := @wpList_load_blk Try.prog _ _ _ _ (hS8.get 4 rfl) 29 0 11 [.int .i64 a.n, .int .i64 (hiOf a.s), .int .u64 (loOf a.s), .int .i64 a.lo, .int .i64 a.hi, .int .i64 a.f.t, .int .i64 a.f.v, .int .i64 a.f.s, .int .i64 a.l.t, .int .i64 a.l.v, .int .i64 a.l.s] _ Try.underlying29 rfl rfl (by kernel_rfl) (fun j _ => by simp)
      have H8 := Lib.hid hS8
      clear hS8
      go_wp2_with (refine hl0 rfl _ rfl rfl ?_)
      refine (HPN.out _).mono ?_
      rintro e w9 ⟨rfl, hb9⟩
      clear hl0
      have hS9 := H8.out.call hb9
      have hl0 := @wpList_load_blk Try.prog _ _ _ _ (hS9.get 4 rfl) 29 0 11 [.int .i64 a.n, .int .i64 (hiOf a.s), .int .u64 (loOf a.s), .int .i64 a.lo, .int .i64 a.hi, .int .i64 a.f.t, .int .i64 a.f.v, .int .i64 a.f.s, .int .i64 a.l.t, .int .i64 a.l.v, .int .i64 a.l.s] _ Try.underlying29 rfl rfl (by kernel_rfl) (fun j _ => by simp)
      have H9 := Lib.hid hS9
      clear hS9 hb9
      go_wp2_with (refine hl0 rfl _ rfl rfl ?_)
      refine (HOA.out _).mono ?_
      rintro e w10 ⟨rfl, hb10⟩
      clear hl0
      have H10 := Lib.hid (H9.out.call hb10)
      clear hb10
      go_wp2_with fail
      refine (HRN.out _).mono ?_
      rintro e w11 ⟨rfl, hb11⟩
      have H11 := Lib.hid (H10.out.call hb11)
      clear hb11
      go_wp2_with fail
      refine (HONE.out _).mono ?_
      rintro e w12 ⟨rfl, hb12⟩
      obtain ⟨y19, hy⟩ : ∃ y, y = w12.heap.size := ⟨_, rfl⟩
      have h1 := (((H11.out.call hb12).take 4).alloc hy 29 #[.int .i64 1, .int .i64 ou, .int .u64 ov, .int .i64 7, .int .i64 7, .int .i64 3, .int .i64 7, .int .i64 0, .int .i64 3, .int .i64 7, .int .i64 0]).front 4 rfl
      have H12 := Lib.hid (And.intro hy h1)
      clear hy h1 hb12
      go_upto_region 10 with (fail)
      rw [← H12.out.1]
      refine wp_gen (Own w [(y19, 29, #[.int .i64 1, .int .i64 ou, .int .u64 ov, .int .i64 7, .int .i64 7, .int .i64 3, .int .i64 7, .int .i64 0, .int .i64 3, .int .i64 7, .int .i64 0]), (y13, 40, #[.int .i64 z.n, .int .i64 (fz 0), .int .i64 (fz 1), .int .i64 (fz 2), .int .i64 (fz 3), .int .i64 (fz 4), .int .i64 (fz 5), .int .i64 (fz 6), .int .i64 (fz 7), .int .i64 z.lo, .int .i64 z.hi, .int .i64 z.f.t, .int .i64 z.f.v, .int .i64 z.f.s, .int .i64 z.l.t, .int .i64 z.l.v, .int .i64 z.l.s]), (y11, 29, #[.int .i64 z.n, .int .i64 (hiOf z.s), .int .u64 (loOf z.s), .int .i64 z.lo, .int .i64 z.hi, .int .i64 z.f.t, .int .i64 z.f.v, .int .i64 z.f.s, .int .i64 z.l.t, .int .i64 z.l.v, .int .i64 z.l.s]), (y9, 40, #[.int .i64 r.n, .int .i64 (fr 0), .int .i64 (fr 1), .int .i64 (fr 2), .int .i64 (fr 3), .int .i64 (fr 4), .int .i64 (fr 5), .int .i64 (fr 6), .int .i64 (fr 7), .int .i64 r.lo, .int .i64 r.hi, .int .i64 r.f.t, .int .i64 r.f.v, .int .i64 r.f.s, .int .i64 r.l.t, .int .i64 r.l.v, .int .i64 r.l.s]), (y7, 29, #[.int .i64 r.n, .int .i64 (hiOf r.s), .int .u64 (loOf r.s), .int .i64 r.lo, .int .i64 r.hi, .int .i64 r.f.t, .int .i64 r.f.v, .int .i64 r.f.s, .int .i64 r.l.t, .int .i64 r.l.v, .int .i64 r.l.s])]) H12.out.2 ?_
      intro w13 hS13
      have q1 := lim_eq fr
      have q2 := lim_eq fz
      have H13 := Lib.hid hS13
      clear hS13
      have hS : (Own w [(y19, 29, #[.int .i64 1, .int .i64 ou, .int .u64 ov, .int .i64 7, .int .i64 7, .int .i64 3, .int .i64 7, .int .i64 0, .int .i64 3, .int .i64 7, .int .i64 0]), (y13, 40, #[.int .i64 z.n, .int .i64 (fz 0), .int .i64 (fz 1), .int .i64 (fz 2), .int .i64 (fz 3), .int .i64 (fz 4), .int .i64 (fz 5), .int .i64 (fz 6), .int .i64 (fz 7), .int .i64 z.lo, .int .i64 z.hi, .int .i64 z.f.t, .int .i64 z.f.v, .int .i64 z.f.s, .int .i64 z.l.t, .int .i64 z.l.v, .int .i64 z.l.s]), (y11, 29, #[.int .i64 z.n, .int .i64 (hiOf z.s), .int .u64 (loOf z.s), .int .i64 z.lo, .int .i64 z.hi, .int .i64 z.f.t, .int .i64 z.f.v, .int .i64 z.f.s, .int .i64 z.l.t, .int .i64 z.l.v, .int .i64 z.l.s]), (y9, 40, #[.int .i64 r.n, .int .i64 (fr 0), .int .i64 (fr 1), .int .i64 (fr 2), .int .i64 (fr 3), .int .i64 (fr 4), .int .i64 (fr 5), .int .i64 (fr 6), .int .i64 (fr 7), .int .i64 r.lo, .int .i64 r.hi, .int .i64 r.f.t, .int .i64 r.f.v, .int .i64 r.f.s, .int .i64 r.l.t, .int .i64 r.l.v, .int .i64 r.l.s]), (y7, 29, #[.int .i64 r.n, .int .i64 (hiOf r.s), .int .u64 (loOf r.s), .int .i64 r.lo, .int .i64 r.hi, .int .i64 r.f.t, .int .i64 r.f.v, .int .i64 r.f.s, .int .i64 r.l.t, .int .i64 r.l.v, .int .i64 r.l.s])]) (w13.drew) := H13.out.drew
      refine reg_start (Own w [(y19, 29, #[.int .i64 1, .int .i64 ou, .int .u64 ov, .int .i64 7, .int .i64 7, .int .i64 3, .int .i64 7, .int .i64 0, .int .i64 3, .int .i64 7, .int .i64 0]), (y13, 40, #[.int .i64 z.n, .int .i64 (fz 0), .int .i64 (fz 1), .int .i64 (fz 2), .int .i64 (fz 3), .int .i64 (fz 4), .int .i64 (fz 5), .int .i64 (fz 6), .int .i64 (fz 7), .int .i64 z.lo, .int .i64 z.hi, .int .i64 z.f.t, .int .i64 z.f.v, .int .i64 z.f.s, .int .i64 z.l.t, .int .i64 z.l.v, .int .i64 z.l.s]), (y11, 29, #[.int .i64 z.n, .int .i64 (hiOf z.s), .int .u64 (loOf z.s), .int .i64 z.lo, .int .i64 z.hi, .int .i64 z.f.t, .int .i64 z.f.v, .int .i64 z.f.s, .int .i64 z.l.t, .int .i64 z.l.v, .int .i64 z.l.s]), (y9, 40, #[.int .i64 r.n, .int .i64 (fr 0), .int .i64 (fr 1), .int .i64 (fr 2), .int .i64 (fr 3), .int .i64 (fr 4), .int .i64 (fr 5), .int .i64 (fr 6), .int .i64 (fr 7), .int .i64 r.lo, .int .i64 r.hi, .int .i64 r.f.t, .int .i64 r.f.v, .int .i64 r.f.s, .int .i64 r.l.t, .int .i64 r.l.v, .int .i64 r.l.s]), (y7, 29, #[.int .i64 r.n, .int .i64 (hiOf r.s), .int .u64 (loOf r.s), .int .i64 r.lo, .int .i64 r.hi, .int .i64 r.f.t, .int .i64 r.f.v, .int .i64 r.f.s, .int .i64 r.l.t, .int .i64 r.l.v, .int .i64 r.l.s])]) (by kernel_rfl) hS ?_
      refine reg_take (i := 0) (v := .agg [.int .i64 r.n, .int .i64 (hiOf r.s), .int .u64 (loOf r.s), .int .i64 r.lo, .int .i64 r.hi, .int .i64 r.f.t, .int .i64 r.f.v, .int .i64 r.f.s, .int .i64 r.l.t, .int .i64 r.l.v, .int .i64 r.l.s].toArray) rfl (by kernel_rfl) (by kernel_rfl) (by kernel_rfl) (fun _ _ _ h => h) (yieldsIf_load_mid (by kernel_rfl) _ _ rfl (y7) 0 rfl [.int .i64 r.n, .int .i64 (hiOf r.s), .int .u64 (loOf r.s), .int .i64 r.lo, .int .i64 r.hi, .int .i64 r.f.t, .int .i64 r.f.v, .int .i64 r.f.s, .int .i64 r.l.t, .int .i64 r.l.v, .int .i64 r.l.s] _ (fun w' h => range_blk (h.get 4 rfl) 0 11 _ rfl (fun j _ => by simp)) Try.underlying29 rfl (by kernel_rfl)) hS ?_
      try simp only [List.getElem_toArray, List.getElem_cons_succ, List.getElem_cons_zero, Act.put, List.setIfInBounds_toArray, List.set_cons_zero, List.set_cons_succ]
      refine reg_take (i := 2) (v := .agg [.int .i64 r.n, .int .i64 (fr 0), .int .i64 (fr 1), .int .i64 (fr 2), .int .i64 (fr 3), .int .i64 (fr 4), .int .i64 (fr 5), .int .i64 (fr 6), .int .i64 (fr 7), .int .i64 r.lo, .int .i64 r.hi, .int .i64 r.f.t, .int .i64 r.f.v, .int .i64 r.f.s, .int .i64 r.l.t, .int .i64 r.l.v, .int .i64 r.l.s].toArray) rfl (by kernel_rfl) (by kernel_rfl) (by kernel_rfl) (fun _ _ _ h => h) (yieldsIf_load_mid (by kernel_rfl) _ _ rfl (y9) 0 rfl [.int .i64 r.n, .int .i64 (fr 0), .int .i64 (fr 1), .int .i64 (fr 2), .int .i64 (fr 3), .int .i64 (fr 4), .int .i64 (fr 5), .int .i64 (fr 6), .int .i64 (fr 7), .int .i64 r.lo, .int .i64 r.hi, .int .i64 r.f.t, .int .i64 r.f.v, .int .i64 r.f.s, .int .i64 r.l.t, .int .i64 r.l.v, .int .i64 r.l.s] _ (fun w' h => range_blk (h.get 3 rfl) 0 17 _ rfl (fun j _ => by simp)) Try.underlying40 rfl (by kernel_rfl)) hS ?_
      try simp only [List.getElem_toArray, List.getElem_cons_succ, List.getElem_cons_zero, Act.put, List.setIfInBounds_toArray, List.set_cons_zero, List.set_cons_succ]
      generalize w13.drew = wd at hS ⊢
      have HD := Lib.hid hS
      refine reg_call (i := 1) rfl (by kernel_rfl) (fun K hK => ?_)
      have HK := Lib.hid hK
      clear hK
      go_simp
      refine (HOR.out _).mono ?_
      rintro e w14 ⟨rfl, h14⟩
      have H14 := Lib.hid (HD.out.call h14)
      clear h14
      go_wp2_with fail
      refine HK.out.to (Own w [(y19, 29, #[.int .i64 1, .int .i64 ou, .int .u64 ov, .int .i64 7, .int .i64 7, .int .i64 3, .int .i64 7, .int .i64 0, .int .i64 3, .int .i64 7, .int .i64 0]), (y13, 40, #[.int .i64 z.n, .int .i64 (fz 0), .int .i64 (fz 1), .int .i64 (fz 2), .int .i64 (fz 3), .int .i64 (fz 4), .int .i64 (fz 5), .int .i64 (fz 6), .int .i64 (fz 7), .int .i64 z.lo, .int .i64 z.hi, .int .i64 z.f.t, .int .i64 z.f.v, .int .i64 z.f.s, .int .i64 z.l.t, .int .i64 z.l.v, .int .i64 z.l.s]), (y11, 29, #[.int .i64 z.n, .int .i64 (hiOf z.s), .int .u64 (loOf z.s), .int .i64 z.lo, .int .i64 z.hi, .int .i64 z.f.t, .int .i64 z.f.v, .int .i64 z.f.s, .int .i64 z.l.t, .int .i64 z.l.v, .int .i64 z.l.s]), (y9, 40, #[.int .i64 r.n, .int .i64 (fr 0), .int .i64 (fr 1), .int .i64 (fr 2), .int .i64 (fr 3), .int .i64 (fr 4), .int .i64 (fr 5), .int .i64 (fr 6), .int .i64 (fr 7), .int .i64 r.lo, .int .i64 r.hi, .int .i64 r.f.t, .int .i64 r.f.v, .int .i64 r.f.s, .int .i64 r.l.t, .int .i64 r.l.v, .int .i64 r.l.s]), (y7, 29, #[.int .i64 r.n, .int .i64 (hiOf r.s), .int .u64 (loOf r.s), .int .i64 r.lo, .int .i64 r.hi, .int .i64 r.f.t, .int .i64 r.f.v, .int .i64 r.f.s, .int .i64 r.l.t, .int .i64 r.l.v, .int .i64 r.l.s])]) (fun _ h => h) (H14.out) ?_
      clear HK hS
      have hS : (Own w [(y19, 29, #[.int .i64 1, .int .i64 ou, .int .u64 ov, .int .i64 7, .int .i64 7, .int .i64 3, .int .i64 7, .int .i64 0, .int .i64 3, .int .i64 7, .int .i64 0]), (y13, 40, #[.int .i64 z.n, .int .i64 (fz 0), .int .i64 (fz 1), .int .i64 (fz 2), .int .i64 (fz 3), .int .i64 (fz 4), .int .i64 (fz 5), .int .i64 (fz 6), .int .i64 (fz 7), .int .i64 z.lo, .int .i64 z.hi, .int .i64 z.f.t, .int .i64 z.f.v, .int .i64 z.f.s, .int .i64 z.l.t, .int .i64 z.l.v, .int .i64 z.l.s]), (y11, 29, #[.int .i64 z.n, .int .i64 (hiOf z.s), .int .u64 (loOf z.s), .int .i64 z.lo, .int .i64 z.hi, .int .i64 z.f.t, .int .i64 z.f.v, .int .i64 z.f.s, .int .i64 z.l.t, .int .i64 z.l.v, .int .i64 z.l.s]), (y9, 40, #[.int .i64 r.n, .int .i64 (fr 0), .int .i64 (fr 1), .int .i64 (fr 2), .int .i64 (fr 3), .int .i64 (fr 4), .int .i64 (fr 5), .int .i64 (fr 6), .int .i64 (fr 7), .int .i64 r.lo, .int .i64 r.hi, .int .i64 r.f.t, .int .i64 r.f.v, .int .i64 r.f.s, .int .i64 r.l.t, .int .i64 r.l.v, .int .i64 r.l.s]), (y7, 29, #[.int .i64 r.n, .int .i64 (hiOf r.s), .int .u64 (loOf r.s), .int .i64 r.lo, .int .i64 r.hi, .int .i64 r.f.t, .int .i64 r.f.v, .int .i64 r.f.s, .int .i64 r.l.t, .int .i64 r.l.v, .int .i64 r.l.s])]) (w14) := H14.out
      try simp only [List.getElem_toArray, List.getElem_cons_succ, List.getElem_cons_zero, Act.put, List.setIfInBounds_toArray, List.set_cons_zero, List.set_cons_succ]
      refine reg_take (i := 3) (v := ?_) rfl (by kernel_rfl) (by kernel_rfl) (by kernel_rfl) (fun _ _ _ h => h) (Or.inl ⟨by kernel_rfl, ?_⟩) hS ?_
      rotate_left
      · (intro w' hSw; go_simp <;> with_reducible rfl)
      try simp only [List.getElem_toArray, List.getElem_cons_succ, List.getElem_cons_zero, Act.put, List.setIfInBounds_toArray, List.set_cons_zero, List.set_cons_succ]
      refine reg_take (i := 4) (v := ?_) rfl (by kernel_rfl) (by kernel_rfl) (by kernel_rfl) (fun _ _ _ h => h) (Or.inl ⟨by kernel_rfl, ?_⟩) hS ?_
      rotate_left
      · (intro w' hSw; go_simp <;> with_reducible rfl)
      try simp only [List.getElem_toArray, List.getElem_cons_succ, List.getElem_cons_zero, Act.put, List.setIfInBounds_toArray, List.set_cons_zero, List.set_cons_succ]
      refine reg_take (i := 5) (v := ?_) rfl (by kernel_rfl) (by kernel_rfl) (by kernel_rfl) (fun _ _ _ h => h) (Or.inl ⟨by kernel_rfl, ?_⟩) hS ?_
      rotate_left
      · (intro w' hSw; go_simp <;> with_reducible rfl)
      try simp only [List.getElem_toArray, List.getElem_cons_succ, List.getElem_cons_zero, Act.put, List.setIfInBounds_toArray, List.set_cons_zero, List.set_cons_succ]
      refine reg_take (i := 6) (v := ?_) rfl (by kernel_rfl) (by kernel_rfl) (by kernel_rfl) (fun _ _ _ h => h) (Or.inl ⟨by kernel_rfl, ?_⟩) hS ?_
      rotate_left
      · (intro w' hSw; go_simp <;> with_reducible rfl)
      try simp only [List.getElem_toArray, List.getElem_cons_succ, List.getElem_cons_zero, Act.put, List.setIfInBounds_toArray, List.set_cons_zero, List.set_cons_succ]
      refine reg_take (i := 7) (v := ?_) rfl (by kernel_rfl) (by kernel_rfl) (by kernel_rfl) (fun _ _ _ h => h) (Or.inl ⟨by kernel_rfl, ?_⟩) hS ?_
      rotate_left
      · (intro w' hSw; go_simp <;> with_reducible rfl)
      try simp only [List.getElem_toArray, List.getElem_cons_succ, List.getElem_cons_zero, Act.put, List.setIfInBounds_toArray, List.set_cons_zero, List.set_cons_succ]
      refine reg_take (i := 8) (v := ?_) rfl (by kernel_rfl) (by kernel_rfl) (by kernel_rfl) (fun _ _ _ h => h) (Or.inl ⟨by kernel_rfl, ?_⟩) hS ?_
      rotate_left
      · (intro w' hSw; go_simp <;> with_reducible rfl)
      try simp only [List.getElem_toArray, List.getElem_cons_succ, List.getElem_cons_zero, Act.put, List.setIfInBounds_toArray, List.set_cons_zero, List.set_cons_succ]
      refine reg_take (i := 9) (v := ?_) rfl (by kernel_rfl) (by kernel_rfl) (by kernel_rfl) (fun _ _ _ h => h) (Or.inl ⟨by kernel_rfl, ?_⟩) hS ?_
      rotate_left
      · (intro w' hSw; go_simp <;> with_reducible rfl)
      try simp only [List.getElem_toArray, List.getElem_cons_succ, List.getElem_cons_zero, Act.put, List.setIfInBounds_toArray, List.set_cons_zero, List.set_cons_succ]
      refine reg_take (i := 10) (v := .agg [.int .i64 z.n, .int .i64 (hiOf z.s), .int .u64 (loOf z.s), .int .i64 z.lo, .int .i64 z.hi, .int .i64 z.f.t, .int .i64 z.f.v, .int .i64 z.f.s, .int .i64 z.l.t, .int .i64 z.l.v, .int .i64 z.l.s].toArray) rfl (by kernel_rfl) (by kernel_rfl) (by kernel_rfl) (fun _ _ _ h => h) (yieldsIf_load_mid (by kernel_rfl) _ _ rfl (y11) 0 rfl [.int .i64 z.n, .int .i64 (hiOf z.s), .int .u64 (loOf z.s), .int .i64 z.lo, .int .i64 z.hi, .int .i64 z.f.t, .int .i64 z.f.v, .int .i64 z.f.s, .int .i64 z.l.t, .int .i64 z.l.v, .int .i64 z.l.s] _ (fun w' h => range_blk (h.get 2 rfl) 0 11 _ rfl (fun j _ => by simp)) Try.underlying29 rfl (by kernel_rfl)) hS ?_
      try simp only [List.getElem_toArray, List.getElem_cons_succ, List.getElem_cons_zero, Act.put, List.setIfInBounds_toArray, List.set_cons_zero, List.set_cons_succ]
      refine reg_take (i := 12) (v := .agg [.int .i64 z.n, .int .i64 (fz 0), .int .i64 (fz 1), .int .i64 (fz 2), .int .i64 (fz 3), .int .i64 (fz 4), .int .i64 (fz 5), .int .i64 (fz 6), .int .i64 (fz 7), .int .i64 z.lo, .int .i64 z.hi, .int .i64 z.f.t, .int .i64 z.f.v, .int .i64 z.f.s, .int .i64 z.l.t, .int .i64 z.l.v, .int .i64 z.l.s].toArray) rfl (by kernel_rfl) (by kernel_rfl) (by kernel_rfl) (fun _ _ _ h => h) (yieldsIf_load_mid (by kernel_rfl) _ _ rfl (y13) 0 rfl [.int .i64 z.n, .int .i64 (fz 0), .int .i64 (fz 1), .int .i64 (fz 2), .int .i64 (fz 3), .int .i64 (fz 4), .int .i64 (fz 5), .int .i64 (fz 6), .int .i64 (fz 7), .int .i64 z.lo, .int .i64 z.hi, .int .i64 z.f.t, .int .i64 z.f.v, .int .i64 z.f.s, .int .i64 z.l.t, .int .i64 z.l.v, .int .i64 z.l.s] _ (fun w' h => range_blk (h.get 1 rfl) 0 17 _ rfl (fun j _ => by simp)) Try.underlying40 rfl (by kernel_rfl)) hS ?_
      try simp only [List.getElem_toArray, List.getElem_cons_succ, List.getElem_cons_zero, Act.put, List.setIfInBounds_toArray, List.set_cons_zero, List.set_cons_succ]
      refine reg_call (i := 11) rfl (by kernel_rfl) (fun K hK => ?_)
      have HK := Lib.hid hK
      clear hK
      go_simp
      refine (HOZ.out _).mono ?_
      rintro e w15 ⟨rfl, h15⟩
      have H15 := Lib.hid (H14.out.call h15)
      clear h15
      go_wp2_with fail
      refine HK.out.to (Own w [(y19, 29, #[.int .i64 1, .int .i64 ou, .int .u64 ov, .int .i64 7, .int .i64 7, .int .i64 3, .int .i64 7, .int .i64 0, .int .i64 3, .int .i64 7, .int .i64 0]), (y13, 40, #[.int .i64 z.n, .int .i64 (fz 0), .int .i64 (fz 1), .int .i64 (fz 2), .int .i64 (fz 3), .int .i64 (fz 4), .int .i64 (fz 5), .int .i64 (fz 6), .int .i64 (fz 7), .int .i64 z.lo, .int .i64 z.hi, .int .i64 z.f.t, .int .i64 z.f.v, .int .i64 z.f.s, .int .i64 z.l.t, .int .i64 z.l.v, .int .i64 z.l.s]), (y11, 29, #[.int .i64 z.n, .int .i64 (hiOf z.s), .int .u64 (loOf z.s), .int .i64 z.lo, .int .i64 z.hi, .int .i64 z.f.t, .int .i64 z.f.v, .int .i64 z.f.s, .int .i64 z.l.t, .int .i64 z.l.v, .int .i64 z.l.s]), (y9, 40, #[.int .i64 r.n, .int .i64 (fr 0), .int .i64 (fr 1), .int .i64 (fr 2), .int .i64 (fr 3), .int .i64 (fr 4), .int .i64 (fr 5), .int .i64 (fr 6), .int .i64 (fr 7), .int .i64 r.lo, .int .i64 r.hi, .int .i64 r.f.t, .int .i64 r.f.v, .int .i64 r.f.s, .int .i64 r.l.t, .int .i64 r.l.v, .int .i64 r.l.s]), (y7, 29, #[.int .i64 r.n, .int .i64 (hiOf r.s), .int .u64 (loOf r.s), .int .i64 r.lo, .int .i64 r.hi, .int .i64 r.f.t, .int .i64 r.f.v, .int .i64 r.f.s, .int .i64 r.l.t, .int .i64 r.l.v, .int .i64 r.l.s])]) (fun _ h => h) (H15.out) ?_
      clear HK hS
      have hS : (Own w [(y19, 29, #[.int .i64 1, .int .i64 ou, .int .u64 ov, .int .i64 7, .int .i64 7, .int .i64 3, .int .i64 7, .int .i64 0, .int .i64 3, .int .i64 7, .int .i64 0]), (y13, 40, #[.int .i64 z.n, .int .i64 (fz 0), .int .i64 (fz 1), .int .i64 (fz 2), .int .i64 (fz 3), .int .i64 (fz 4), .int .i64 (fz 5), .int .i64 (fz 6), .int .i64 (fz 7), .int .i64 z.lo, .int .i64 z.hi, .int .i64 z.f.t, .int .i64 z.f.v, .int .i64 z.f.s, .int .i64 z.l.t, .int .i64 z.l.v, .int .i64 z.l.s]), (y11, 29, #[.int .i64 z.n, .int .i64 (hiOf z.s), .int .u64 (loOf z.s), .int .i64 z.lo, .int .i64 z.hi, .int .i64 z.f.t, .int .i64 z.f.v, .int .i64 z.f.s, .int .i64 z.l.t, .int .i64 z.l.v, .int .i64 z.l.s]), (y9, 40, #[.int .i64 r.n, .int .i64 (fr 0), .int .i64 (fr 1), .int .i64 (fr 2), .int .i64 (fr 3), .int .i64 (fr 4), .int .i64 (fr 5), .int .i64 (fr 6), .int .i64 (fr 7), .int .i64 r.lo, .int .i64 r.hi, .int .i64 r.f.t, .int .i64 r.f.v, .int .i64 r.f.s, .int .i64 r.l.t, .int .i64 r.l.v, .int .i64 r.l.s]), (y7, 29, #[.int .i64 r.n, .int .i64 (hiOf r.s), .int .u64 (loOf r.s), .int .i64 r.lo, .int .i64 r.hi, .int .i64 r.f.t, .int .i64 r.f.v, .int .i64 r.f.s, .int .i64 r.l.t, .int .i64 r.l.v, .int .i64 r.l.s])]) (w15) := H15.out
      try simp only [List.getElem_toArray, List.getElem_cons_succ, List.getElem_cons_zero, Act.put, List.setIfInBounds_toArray, List.set_cons_zero, List.set_cons_succ]
      refine reg_take (i := 13) (v := ?_) rfl (by kernel_rfl) (by kernel_rfl) (by kernel_rfl) (fun _ _ _ h => h) (Or.inl ⟨by kernel_rfl, ?_⟩) hS ?_
      rotate_left
      · (intro w' hSw; go_simp <;> with_reducible rfl)
      try simp only [List.getElem_toArray, List.getElem_cons_succ, List.getElem_cons_zero, Act.put, List.setIfInBounds_toArray, List.set_cons_zero, List.set_cons_succ]
      refine reg_take (i := 14) (v := ?_) rfl (by kernel_rfl) (by kernel_rfl) (by kernel_rfl) (fun _ _ _ h => h) (Or.inl ⟨by kernel_rfl, ?_⟩) hS ?_
      rotate_left
      · (intro w' hSw; go_simp <;> with_reducible rfl)
      try simp only [List.getElem_toArray, List.getElem_cons_succ, List.getElem_cons_zero, Act.put, List.setIfInBounds_toArray, List.set_cons_zero, List.set_cons_succ]
      refine reg_take (i := 15) (v := ?_) rfl (by kernel_rfl) (by kernel_rfl) (by kernel_rfl) (fun _ _ _ h => h) (Or.inl ⟨by kernel_rfl, ?_⟩) hS ?_
      rotate_left
      · (intro w' hSw; go_simp <;> with_reducible rfl)
      try simp only [List.getElem_toArray, List.getElem_cons_succ, List.getElem_cons_zero, Act.put, List.setIfInBounds_toArray, List.set_cons_zero, List.set_cons_succ]
      refine reg_take (i := 16) (v := ?_) rfl (by kernel_rfl) (by kernel_rfl) (by kernel_rfl) (fun _ _ _ h => h) (Or.inl ⟨by kernel_rfl, ?_⟩) hS ?_
      rotate_left
      · (intro w' hSw; go_simp <;> with_reducible rfl)
      try simp only [List.getElem_toArray, List.getElem_cons_succ, List.getElem_cons_zero, Act.put, List.setIfInBounds_toArray, List.set_cons_zero, List.set_cons_succ]
      refine reg_take (i := 17) (v := ?_) rfl (by kernel_rfl) (by kernel_rfl) (by kernel_rfl) (fun _ _ _ h => h) (Or.inl ⟨by kernel_rfl, ?_⟩) hS ?_
      rotate_left
      · (intro w' hSw; go_simp <;> with_reducible rfl)
      try simp only [List.getElem_toArray, List.getElem_cons_succ, List.getElem_cons_zero, Act.put, List.setIfInBounds_toArray, List.set_cons_zero, List.set_cons_succ]
      refine reg_take (i := 18) (v := ?_) rfl (by kernel_rfl) (by kernel_rfl) (by kernel_rfl) (fun _ _ _ h => h) (Or.inl ⟨by kernel_rfl, ?_⟩) hS ?_
      rotate_left
      · (intro w' hSw; go_simp <;> with_reducible rfl)
      try simp only [List.getElem_toArray, List.getElem_cons_succ, List.getElem_cons_zero, Act.put, List.setIfInBounds_toArray, List.set_cons_zero, List.set_cons_succ]
      refine reg_take (i := 19) (v := ?_) rfl (by kernel_rfl) (by kernel_rfl) (by kernel_rfl) (fun _ _ _ h => h) (Or.inl ⟨by kernel_rfl, ?_⟩) hS ?_
      rotate_left
      · (intro w' hSw; go_simp <;> with_reducible rfl)
      try simp only [List.getElem_toArray, List.getElem_cons_succ, List.getElem_cons_zero, Act.put, List.setIfInBounds_toArray, List.set_cons_zero, List.set_cons_succ]
      refine reg_take (i := 20) (v := ?_) rfl (by kernel_rfl) (by kernel_rfl) (by kernel_rfl) (fun _ _ _ h => h) (Or.inl ⟨by kernel_rfl, ?_⟩) hS ?_
      rotate_left
      · (intro w' hSw; go_simp <;> with_reducible rfl)
      try simp only [List.getElem_toArray, List.getElem_cons_succ, List.getElem_cons_zero, Act.put, List.setIfInBounds_toArray, List.set_cons_zero, List.set_cons_succ]
      refine reg_take (i := 21) (v := ?_) rfl (by kernel_rfl) (by kernel_rfl) (by kernel_rfl) (fun _ _ _ h => h) (Or.inl ⟨by kernel_rfl, ?_⟩) hS ?_
      rotate_left
      · (intro w' hSw; go_simp <;> with_reducible rfl)
      try simp only [List.getElem_toArray, List.getElem_cons_succ, List.getElem_cons_zero, Act.put, List.setIfInBounds_toArray, List.set_cons_zero, List.set_cons_succ]
      refine reg_take (i := 22) (v := ?_) rfl (by kernel_rfl) (by kernel_rfl) (by kernel_rfl) (fun _ _ _ h => h) (Or.inl ⟨by kernel_rfl, ?_⟩) hS ?_
      rotate_left
      · (intro w' hSw; go_simp <;> with_reducible rfl)
      try simp only [List.getElem_toArray, List.getElem_cons_succ, List.getElem_cons_zero, Act.put, List.setIfInBounds_toArray, List.set_cons_zero, List.set_cons_succ]
      refine reg_take (i := 23) (v := ?_) rfl (by kernel_rfl) (by kernel_rfl) (by kernel_rfl) (fun _ _ _ h => h) (Or.inl ⟨by kernel_rfl, ?_⟩) hS ?_
      rotate_left
      · (intro w' hSw; go_simp <;> with_reducible rfl)
      try simp only [List.getElem_toArray, List.getElem_cons_succ, List.getElem_cons_zero, Act.put, List.setIfInBounds_toArray, List.set_cons_zero, List.set_cons_succ]
      refine reg_take (i := 24) (v := ?_) rfl (by kernel_rfl) (by kernel_rfl) (by kernel_rfl) (fun _ _ _ h => h) (Or.inl ⟨by kernel_rfl, ?_⟩) hS ?_
      rotate_left
      · (intro w' hSw; go_simp <;> with_reducible rfl)
      try simp only [List.getElem_toArray, List.getElem_cons_succ, List.getElem_cons_zero, Act.put, List.setIfInBounds_toArray, List.set_cons_zero, List.set_cons_succ]
      refine reg_take (i := 25) (v := ?_) rfl (by kernel_rfl) (by kernel_rfl) (by kernel_rfl) (fun _ _ _ h => h) (Or.inl ⟨by kernel_rfl, ?_⟩) hS ?_
      rotate_left
      · (intro w' hSw; go_simp <;> with_reducible rfl)
      try simp only [List.getElem_toArray, List.getElem_cons_succ, List.getElem_cons_zero, Act.put, List.setIfInBounds_toArray, List.set_cons_zero, List.set_cons_succ]
      refine reg_take (i := 26) (v := ?_) rfl (by kernel_rfl) (by kernel_rfl) (by kernel_rfl) (fun _ _ _ h => h) (Or.inl ⟨by kernel_rfl, ?_⟩) hS ?_
      rotate_left
      · (intro w' hSw; go_simp <;> with_reducible rfl)
      try simp only [List.getElem_toArray, List.getElem_cons_succ, List.getElem_cons_zero, Act.put, List.setIfInBounds_toArray, List.set_cons_zero, List.set_cons_succ]
      refine reg_take (i := 27) (v := ?_) rfl (by kernel_rfl) (by kernel_rfl) (by kernel_rfl) (fun _ _ _ h => h) (Or.inl ⟨by kernel_rfl, ?_⟩) hS ?_
      rotate_left
      · (intro w' hSw; go_simp <;> with_reducible rfl)
      try simp only [List.getElem_toArray, List.getElem_cons_succ, List.getElem_cons_zero, Act.put, List.setIfInBounds_toArray, List.set_cons_zero, List.set_cons_succ]
      refine reg_take (i := 28) (v := ?_) rfl (by kernel_rfl) (by kernel_rfl) (by kernel_rfl) (fun _ _ _ h => h) (Or.inl ⟨by kernel_rfl, ?_⟩) hS ?_
      rotate_left
      · (intro w' hSw; go_simp <;> with_reducible rfl)
      try simp only [List.getElem_toArray, List.getElem_cons_succ, List.getElem_cons_zero, Act.put, List.setIfInBounds_toArray, List.set_cons_zero, List.set_cons_succ]
      refine reg_take (i := 29) (v := ?_) rfl (by kernel_rfl) (by kernel_rfl) (by kernel_rfl) (fun _ _ _ h => h) (Or.inl ⟨by kernel_rfl, ?_⟩) hS ?_
      rotate_left
      · (intro w' hSw; go_simp <;> with_reducible rfl)
      try simp only [List.getElem_toArray, List.getElem_cons_succ, List.getElem_cons_zero, Act.put, List.setIfInBounds_toArray, List.set_cons_zero, List.set_cons_succ]
      refine reg_take (i := 30) (v := ?_) rfl (by kernel_rfl) (by kernel_rfl) (by kernel_rfl) (fun _ _ _ h => h) (Or.inl ⟨by kernel_rfl, ?_⟩) hS ?_
      rotate_left
      · (intro w' hSw; go_simp <;> with_reducible rfl)
      try simp only [List.getElem_toArray, List.getElem_cons_succ, List.getElem_cons_zero, Act.put, List.setIfInBounds_toArray, List.set_cons_zero, List.set_cons_succ]
      refine reg_take (i := 31) (v := ?_) rfl (by kernel_rfl) (by kernel_rfl) (by kernel_rfl) (fun _ _ _ h => h) (Or.inl ⟨by kernel_rfl, ?_⟩) hS ?_
      rotate_left
      · (intro w' hSw; go_simp <;> with_reducible rfl)
      try simp only [List.getElem_toArray, List.getElem_cons_succ, List.getElem_cons_zero, Act.put, List.setIfInBounds_toArray, List.set_cons_zero, List.set_cons_succ]
      refine reg_take (i := 32) (v := ?_) rfl (by kernel_rfl) (by kernel_rfl) (by kernel_rfl) (fun _ _ _ h => h) (Or.inl ⟨by kernel_rfl, ?_⟩) hS ?_
      rotate_left
      · (intro w' hSw; have u0 := hSw.cell 0 0 rfl rfl; go_simp <;> with_reducible rfl)
      try simp only [List.getElem_toArray, List.getElem_cons_succ, List.getElem_cons_zero, Act.put, List.setIfInBounds_toArray, List.set_cons_zero, List.set_cons_succ]
      refine reg_take (i := 33) (v := ?_) rfl (by kernel_rfl) (by kernel_rfl) (by kernel_rfl) (fun _ _ _ h => h) (Or.inl ⟨by kernel_rfl, ?_⟩) hS ?_
      rotate_left
      · (intro w' hSw; go_simp <;> with_reducible rfl)
      try simp only [List.getElem_toArray, List.getElem_cons_succ, List.getElem_cons_zero, Act.put, List.setIfInBounds_toArray, List.set_cons_zero, List.set_cons_succ]
      refine reg_take (i := 34) (v := ?_) rfl (by kernel_rfl) (by kernel_rfl) (by kernel_rfl) (fun _ _ _ h => h) (Or.inl ⟨by kernel_rfl, ?_⟩) hS ?_
      rotate_left
      · (intro w' hSw; go_simp <;> with_reducible rfl)
      try simp only [List.getElem_toArray, List.getElem_cons_succ, List.getElem_cons_zero, Act.put, List.setIfInBounds_toArray, List.set_cons_zero, List.set_cons_succ]
      refine reg_take (i := 35) (v := ?_) rfl (by kernel_rfl) (by kernel_rfl) (by kernel_rfl) (fun _ _ _ h => h) (Or.inl ⟨by kernel_rfl, ?_⟩) hS ?_
      rotate_left
      · (intro w' hSw; go_simp <;> with_reducible rfl)
      try simp only [List.getElem_toArray, List.getElem_cons_succ, List.getElem_cons_zero, Act.put, List.setIfInBounds_toArray, List.set_cons_zero, List.set_cons_succ]
      refine reg_take (i := 36) (v := ?_) rfl (by kernel_rfl) (by kernel_rfl) (by kernel_rfl) (fun _ _ _ h => h) (Or.inl ⟨by kernel_rfl, ?_⟩) hS ?_
      rotate_left
      · (intro w' hSw; go_simp <;> with_reducible rfl)
      try simp only [List.getElem_toArray, List.getElem_cons_succ, List.getElem_cons_zero, Act.put, List.setIfInBounds_toArray, List.set_cons_zero, List.set_cons_succ]
      refine reg_take (i := 37) (v := ?_) rfl (by kernel_rfl) (by kernel_rfl) (by kernel_rfl) (fun _ _ _ h => h) (Or.inl ⟨by kernel_rfl, ?_⟩) hS ?_
      rotate_left
      · (intro w' hSw; have u0 := hSw.cell 0 4 rfl rfl; go_simp <;> with_reducible rfl)
      try simp only [List.getElem_toArray, List.getElem_cons_succ, List.getElem_cons_zero, Act.put, List.setIfInBounds_toArray, List.set_cons_zero, List.set_cons_succ]
      refine reg_take (i := 38) (v := ?_) rfl (by kernel_rfl) (by kernel_rfl) (by kernel_rfl) (fun _ _ _ h => h) (Or.inl ⟨by kernel_rfl, ?_⟩) hS ?_
      rotate_left
      · (intro w' hSw; go_simp <;> with_reducible rfl)
      try simp only [List.getElem_toArray, List.getElem_cons_succ, List.getElem_cons_zero, Act.put, List.setIfInBounds_toArray, List.set_cons_zero, List.set_cons_succ]
      refine reg_take (i := 39) (v := ?_) rfl (by kernel_rfl) (by kernel_rfl) (by kernel_rfl) (fun _ _ _ h => h) (Or.inl ⟨by kernel_rfl, ?_⟩) hS ?_
      rotate_left
      · (intro w' hSw; go_simp <;> with_reducible rfl)
      try simp only [List.getElem_toArray, List.getElem_cons_succ, List.getElem_cons_zero, Act.put, List.setIfInBounds_toArray, List.set_cons_zero, List.set_cons_succ]
      refine reg_take (i := 40) (v := ?_) rfl (by kernel_rfl) (by kernel_rfl) (by kernel_rfl) (fun _ _ _ h => h) (Or.inl ⟨by kernel_rfl, ?_⟩) hS ?_
      rotate_left
      · (intro w' hSw; go_simp <;> with_reducible rfl)
      try simp only [List.getElem_toArray, List.getElem_cons_succ, List.getElem_cons_zero, Act.put, List.setIfInBounds_toArray, List.set_cons_zero, List.set_cons_succ]
      refine wpAnyH_done (by kernel_rfl) ?_ _
      try simp only [List.getElem_toArray, List.getElem_cons_succ, List.getElem_cons_zero]
      try simp only [List.getElem_toArray, List.getElem_cons_succ, List.getElem_cons_zero, Act.put, List.setIfInBounds_toArray, List.set_cons_zero, List.set_cons_succ]
      have HP := Lib.hid hS.bel
      clear hS
      go_wp2_with fail
      go_ret
      exact ⟨rfl, HP.out⟩
end Go.Proofs.Ythhgnngpaagagaa
