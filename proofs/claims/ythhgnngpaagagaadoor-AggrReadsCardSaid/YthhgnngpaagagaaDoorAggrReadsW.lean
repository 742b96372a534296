/-
  The walk of the law AggrReads. (Printed by genAggrReadsW.py and mk.py.)
-/
import Derived.Test.YthhgnngpaagagaaDoorTmC
import Derived.Test.YthhgnngpaagagaaDoorTmD
import Derived.Test.YthhgnngpaagagaaDoorTmE
import Derived.Test.YthhgnngpaagagaaDoorLmD
import Derived.Test.YthhgnngpaagagaaDoorLmV
import Derived.Test.YthhgnngpaagagaaDoorAvC
import Derived.Test.YthhgnngpaagagaaDoorConv
import Derived.Deep.DeepCutAuto
import Derived.DeepKeys
namespace Go.Proofs.YthhgnngpaagagaaDoor
open Go.RowKit
set_option linter.unusedVariables false
set_option linter.unusedSimpArgs false
theorem lim_eq (f : Nat → Int) (w : World) : (Op.equalIn 9999 33 (.agg #[.int .i64 (f 0), .int .i64 (f 1), .int .i64 (f 2), .int .i64 (f 3), .int .i64 (f 4), .int .i64 (f 5), .int .i64 (f 6), .int .i64 (f 7)]) (.agg #[.int .i64 (f 0), .int .i64 (f 1), .int .i64 (f 2), .int .i64 (f 3), .int .i64 (f 4), .int .i64 (f 5), .int .i64 (f 6), .int .i64 (f 7)])).run Tryd.prog w = .ok true w := by
  obtain ⟨i, hi⟩ := info_of_underlying (P := Tryd.prog) Tryd.underlying3
  have hc : Tryd.prog.cellsOf 3 = 1 := by kernel_rfl
  rw [run_equalIn_array w 9998 _ _ Tryd.underlying33 hi, hc]
  simp [Op.eqItems, List.range, List.range.loop, go_sem]
theorem ag_zero (w : World) : (Instr.build 28 #[]).run Tryd.prog w = .ok (.agg #[.int .i64 0, .int .i64 0, .int .u64 0, .int .i64 0, .int .i64 0, .int .i64 0, .int .i64 0, .int .i64 0, .int .i64 0, .int .i64 0, .int .i64 0]) w := by kernel_rfl
theorem zeroA_full : AgFull zeroA := by
  refine ⟨by unfold AgOk zeroA I64 S128; simp, ⟨?_, ?_, ?_⟩, ⟨?_, ?_, ?_⟩⟩ <;> (unfold zeroA I64; simp)
theorem aget_fst_full (l : List Nat) : AgFull (aget l).1 := by
  unfold aget
  by_cases h1 : IntKind.i64.wrap ((rdVal l 0 : Nat) : Int) = 0
  · rw [if_pos h1]
    by_cases h2 : (rdAt l 1).2 ≠ 0
    · rw [if_pos h2]; exact zeroA_full
    · rw [if_neg h2]; exact zeroA_full
  · rw [if_neg h1]
    by_cases h2 : (rdAt l 11).2 ≠ 0
    · rw [if_pos h2]; exact zeroA_full
    · rw [if_neg h2]
      by_cases h3 : validA (aggRd l) = true
      · rw [if_pos h3]; exact aggRd_full l
      · rw [if_neg h3]; exact zeroA_full
theorem valid_zero (w : World) : Calls Tryd.prog 7 #[.agg #[.int .i64 0, .int .i64 0, .int .u64 0, .int .i64 0, .int .i64 0, .int .i64 0, .int .i64 0, .int .i64 0, .int .i64 0, .int .i64 0, .int .i64 0]] w (BoolPost true w) := by
  have h := valid_any zeroA zeroA_full.ok w
  have e : validA zeroA = true := by unfold validA isZ zeroA; rfl
  rw [e] at h
  have e1 : hiOf zeroA.s = 0 := by unfold zeroA hiOf; rfl
  have e2 : loOf zeroA.s = 0 := by unfold zeroA loOf; rfl
  rw [e1, e2] at h
  exact h
set_option maxRecDepth 100000 in
set_option maxHeartbeats 8000000 in
theorem aggrReads_walk (a0 : Ag) (a1 : Option Addr) (len1 cap1 : Nat) (z1 : List Int) (w : World) (w0 : AgOk a0 ∧ PtOk a0.f ∧ PtOk a0.l) (w1 : IsRow .u8 w a1 len1 cap1 z1) (hv : HErr w) :
    Calls Tryd.prog 3 #[.agg #[.int .i64 a0.n, .int .i64 (hiOf a0.s), .int .u64 (loOf a0.s), .int .i64 a0.lo, .int .i64 a0.hi, .int .i64 a0.f.t, .int .i64 a0.f.v, .int .i64 a0.f.s, .int .i64 a0.l.t, .int .i64 a0.l.v, .int .i64 a0.l.s], .slice a1 len1 cap1] w fun e w' => e = .returned (.bool true) ∧ Below w.heap.size w w' := by
  have hfull : AgFull a0 := ⟨w0.1, w0.2.1, w0.2.2⟩
  obtain ⟨n, hn⟩ : ∃ n, n = min len1 1000 := ⟨_, rfl⟩
  obtain ⟨bs, hbl, hbb, hbs⟩ := w1.bytes n (by omega)
  have l0 := w1.le
  have hcm : cap1 ≤ 9223372036854775807 := by
    rcases w1 with ⟨_, _, h, _⟩ | ⟨x, _, _, h, _⟩
    · omega
    · unfold maxLen at h; omega
  have hlc := l0.1
  have hnl : n ≤ len1 := by omega
  have hn5 : n ≤ 1000 := by omega
  have hnc : n ≤ cap1 := by omega
  have hnone : 0 < len1 → ∃ b off, a1 = some ⟨b, off, none⟩ := fun h => by
    obtain ⟨b, off, e, _⟩ := hbs (by omega)
    exact ⟨b, off, e⟩
  clear w0 w1 l0
  obtain ⟨x, hx⟩ : ∃ x, x = w.heap.size := ⟨_, rfl⟩
  have o0 := Own.own1 w hx 28 #[.int .i64 a0.n, .int .i64 (hiOf a0.s), .int .u64 (loOf a0.s), .int .i64 a0.lo, .int .i64 a0.hi, .int .i64 a0.f.t, .int .i64 a0.f.v, .int .i64 a0.f.s, .int .i64 a0.l.t, .int .i64 a0.l.v, .int .i64 a0.l.s]
  have HS := Lib.hid (And.intro hbl (And.intro hbb (And.intro hbs hv)))
  have HN := Lib.hid (And.intro hn hnone)
  have HO := Lib.hid (And.intro hx o0)
  have HFU := Lib.hid hfull
  clear hbl hbb hbs hv hn hnone hx o0 hfull
  go_enter Tryd.func3, Tryd.ntmps3
  go_upto_if 13 with (fail)
  rw [← HO.out.1]
  refine wp_gen (Own w [(x, 28, #[.int .i64 a0.n, .int .i64 (hiOf a0.s), .int .u64 (loOf a0.s), .int .i64 a0.lo, .int .i64 a0.hi, .int .i64 a0.f.t, .int .i64 a0.f.v, .int .i64 a0.f.s, .int .i64 a0.l.t, .int .i64 a0.l.v, .int .i64 a0.l.s])]) HO.out.2 ?_
  intro w1 hS
  have HS1 := Lib.hid hS
  clear hS HO
  go_cut [1] (fun s0 wx => s0 = .slice a1 n cap1 ∧ w1 = wx)
  case first =>
    by_cases h : 1000 < len1
    · obtain ⟨b, off, rfl⟩ := HN.out.2 (by omega)
      go_wp2_with fail
      go_meet
      have : n = 1000 := by have := HN.out.1; omega
      subst this
      exact ⟨rfl, rfl⟩
    · go_wp2_with fail
      go_meet
      have : n = len1 := by have := HN.out.1; omega
      subst this
      exact ⟨rfl, rfl⟩
  case rest =>
    obtain ⟨rfl, rfl⟩ := hcut
    clear hlc hnl
    go_wp2_with fail
    refine (aggRead_any _ _ _ _ bs ⟨HS.out.1, HS.out.2.1, sl_later HS.out.2.2.1 HS1.out.bel, hnc, hcm, by omega, HS.out.2.2.2.below HS1.out.bel⟩).mono ?_
    rintro e w2 ⟨rfl, hb2⟩
    have hrf := aget_fst_full bs
    obtain ⟨y1, hy1⟩ : ∃ y, y = w2.heap.size := ⟨_, rfl⟩
    have o1 := (HS1.out.call hb2).alloc hy1 28 #[.int .i64 (aget bs).1.n, .int .i64 (hiOf (aget bs).1.s), .int .u64 (loOf (aget bs).1.s), .int .i64 (aget bs).1.lo, .int .i64 (aget bs).1.hi, .int .i64 (aget bs).1.f.t, .int .i64 (aget bs).1.f.v, .int .i64 (aget bs).1.f.s, .int .i64 (aget bs).1.l.t, .int .i64 (aget bs).1.l.v, .int .i64 (aget bs).1.l.s]
    have HY1 := Lib.hid (And.intro hy1 o1)
    clear hy1 hb2 HS1 o1
    go_upto_region 4 with (fail)
    rw [← HY1.out.1]
    refine wp_gen (Own w [(x, 28, #[.int .i64 a0.n, .int .i64 (hiOf a0.s), .int .u64 (loOf a0.s), .int .i64 a0.lo, .int .i64 a0.hi, .int .i64 a0.f.t, .int .i64 a0.f.v, .int .i64 a0.f.s, .int .i64 a0.l.t, .int .i64 a0.l.v, .int .i64 a0.l.s]), (y1, 28, #[.int .i64 (aget bs).1.n, .int .i64 (hiOf (aget bs).1.s), .int .u64 (loOf (aget bs).1.s), .int .i64 (aget bs).1.lo, .int .i64 (aget bs).1.hi, .int .i64 (aget bs).1.f.t, .int .i64 (aget bs).1.f.v, .int .i64 (aget bs).1.f.s, .int .i64 (aget bs).1.l.t, .int .i64 (aget bs).1.l.v, .int .i64 (aget bs).1.l.s])]) HY1.out.2 ?_
    intro w3 hS
    have HS3 := Lib.hid hS
    clear hS HY1
    go_wp2_with fail
    refine (rread_any _ _ _ _ bs ⟨HS.out.1, HS.out.2.1, sl_later HS.out.2.2.1 HS3.out.bel, hnc, hcm, by omega, HS.out.2.2.2.below HS3.out.bel⟩).mono ?_
    rintro e w4 ⟨rfl, hb4⟩
    have h4 := HS3.out.call hb4
    clear hb4 HS3
    obtain ⟨rp, hrp⟩ : ∃ v, v = (aget bs).2.1 := ⟨_, rfl⟩
    obtain ⟨re, hre⟩ : ∃ v, v = (aget bs).2.2 := ⟨_, rfl⟩
    rw [← hrp, ← hre]
    clear hrp hre
    generalize (aget bs).1 = r at h4 hrf ⊢
    have hor := own_any r hrf.ok
    have hoa := own_any a0 HFU.out.ok
    have hva := valid_any a0 HFU.out.ok
    have hrv := rvalid_any a0 HFU.out
    have hrp := fun (w : World) (hsl : Sl w (fun k => k < w.heap.size) a1 n (byteC bs)) => rput_any w a1 n cap1 bs a0 HFU.out HS.out.1 hsl (by omega)
    unfold ROfPost at hor hoa
    generalize lim r.s = fr at hor ⊢
    generalize lim a0.s = fa at hoa hrv hrp
    generalize validA a0 = bv at hva hrv
    have HC := Lib.hid (And.intro hva (And.intro hoa (And.intro hrv (And.intro hrp hor))))
    clear hva hoa hrv hrp hor hrf
    obtain ⟨y2, hy2⟩ : ∃ y, y = w4.heap.size := ⟨_, rfl⟩
    have o2 := h4.alloc hy2 35 #[.int .i64 r.n, .int .i64 (fr 0), .int .i64 (fr 1), .int .i64 (fr 2), .int .i64 (fr 3), .int .i64 (fr 4), .int .i64 (fr 5), .int .i64 (fr 6), .int .i64 (fr 7), .int .i64 r.lo, .int .i64 r.hi, .int .i64 r.f.t, .int .i64 r.f.v, .int .i64 r.f.s, .int .i64 r.l.t, .int .i64 r.l.v, .int .i64 r.l.s]
    have HY2 := Lib.hid (And.intro hy2 o2)
    clear hy2 o2 h4
    go_upto_region 5 with (fail)
    rw [← HY2.out.1]
    refine wp_gen (Own w [(x, 28, #[.int .i64 a0.n, .int .i64 (hiOf a0.s), .int .u64 (loOf a0.s), .int .i64 a0.lo, .int .i64 a0.hi, .int .i64 a0.f.t, .int .i64 a0.f.v, .int .i64 a0.f.s, .int .i64 a0.l.t, .int .i64 a0.l.v, .int .i64 a0.l.s]), (y1, 28, #[.int .i64 r.n, .int .i64 (hiOf r.s), .int .u64 (loOf r.s), .int .i64 r.lo, .int .i64 r.hi, .int .i64 r.f.t, .int .i64 r.f.v, .int .i64 r.f.s, .int .i64 r.l.t, .int .i64 r.l.v, .int .i64 r.l.s]), (y2, 35, #[.int .i64 r.n, .int .i64 (fr 0), .int .i64 (fr 1), .int .i64 (fr 2), .int .i64 (fr 3), .int .i64 (fr 4), .int .i64 (fr 5), .int .i64 (fr 6), .int .i64 (fr 7), .int .i64 r.lo, .int .i64 r.hi, .int .i64 r.f.t, .int .i64 r.f.v, .int .i64 r.f.s, .int .i64 r.l.t, .int .i64 r.l.v, .int .i64 r.l.s])]) HY2.out.2 ?_
    intro w5 hS5
    have H5 := Lib.hid hS5
    clear hS5 HY2
    obtain ⟨P, hP⟩ : ∃ P, P = bs ++ aput a0 := ⟨_, rfl⟩
    obtain ⟨pl, hpl⟩ : ∃ n, n = P.length := ⟨_, rfl⟩
    have HP := Lib.hid (And.intro hP hpl.symm)
    clear hP hpl
    have q1 := lim_eq fr
    have q2 := ag_zero
    have hS : (Own w [(x, 28, #[.int .i64 a0.n, .int .i64 (hiOf a0.s), .int .u64 (loOf a0.s), .int .i64 a0.lo, .int .i64 a0.hi, .int .i64 a0.f.t, .int .i64 a0.f.v, .int .i64 a0.f.s, .int .i64 a0.l.t, .int .i64 a0.l.v, .int .i64 a0.l.s]), (y1, 28, #[.int .i64 r.n, .int .i64 (hiOf r.s), .int .u64 (loOf r.s), .int .i64 r.lo, .int .i64 r.hi, .int .i64 r.f.t, .int .i64 r.f.v, .int .i64 r.f.s, .int .i64 r.l.t, .int .i64 r.l.v, .int .i64 r.l.s]), (y2, 35, #[.int .i64 r.n, .int .i64 (fr 0), .int .i64 (fr 1), .int .i64 (fr 2), .int .i64 (fr 3), .int .i64 (fr 4), .int .i64 (fr 5), .int .i64 (fr 6), .int .i64 (fr 7), .int .i64 r.lo, .int .i64 r.hi, .int .i64 r.f.t, .int .i64 r.f.v, .int .i64 r.f.s, .int .i64 r.l.t, .int .i64 r.l.v, .int .i64 r.l.s])]) (w5.drew) := H5.out.drew
    refine reg_start (Own w [(x, 28, #[.int .i64 a0.n, .int .i64 (hiOf a0.s), .int .u64 (loOf a0.s), .int .i64 a0.lo, .int .i64 a0.hi, .int .i64 a0.f.t, .int .i64 a0.f.v, .int .i64 a0.f.s, .int .i64 a0.l.t, .int .i64 a0.l.v, .int .i64 a0.l.s]), (y1, 28, #[.int .i64 r.n, .int .i64 (hiOf r.s), .int .u64 (loOf r.s), .int .i64 r.lo, .int .i64 r.hi, .int .i64 r.f.t, .int .i64 r.f.v, .int .i64 r.f.s, .int .i64 r.l.t, .int .i64 r.l.v, .int .i64 r.l.s]), (y2, 35, #[.int .i64 r.n, .int .i64 (fr 0), .int .i64 (fr 1), .int .i64 (fr 2), .int .i64 (fr 3), .int .i64 (fr 4), .int .i64 (fr 5), .int .i64 (fr 6), .int .i64 (fr 7), .int .i64 r.lo, .int .i64 r.hi, .int .i64 r.f.t, .int .i64 r.f.v, .int .i64 r.f.s, .int .i64 r.l.t, .int .i64 r.l.v, .int .i64 r.l.s])]) (by kernel_rfl) hS ?_
    refine reg_take (i := 0) (v := .agg [.int .i64 a0.n, .int .i64 (hiOf a0.s), .int .u64 (loOf a0.s), .int .i64 a0.lo, .int .i64 a0.hi, .int .i64 a0.f.t, .int .i64 a0.f.v, .int .i64 a0.f.s, .int .i64 a0.l.t, .int .i64 a0.l.v, .int .i64 a0.l.s].toArray) rfl (by kernel_rfl) (by kernel_rfl) (by kernel_rfl) (fun _ _ _ h => h) (yieldsIf_load_mid (by kernel_rfl) _ _ rfl (x) 0 rfl [.int .i64 a0.n, .int .i64 (hiOf a0.s), .int .u64 (loOf a0.s), .int .i64 a0.lo, .int .i64 a0.hi, .int .i64 a0.f.t, .int .i64 a0.f.v, .int .i64 a0.f.s, .int .i64 a0.l.t, .int .i64 a0.l.v, .int .i64 a0.l.s] _ (fun w' h => range_blk (h.get 0 rfl) 0 11 _ rfl (fun j _ => by simp)) Tryd.underlying28 rfl (by kernel_rfl)) hS ?_
    try simp only [List.getElem_toArray, List.getElem_cons_succ, List.getElem_cons_zero, Act.put, List.setIfInBounds_toArray, List.set_cons_zero, List.set_cons_succ]
    refine reg_take (i := 2) (v := .agg [.int .i64 a0.n, .int .i64 (hiOf a0.s), .int .u64 (loOf a0.s), .int .i64 a0.lo, .int .i64 a0.hi, .int .i64 a0.f.t, .int .i64 a0.f.v, .int .i64 a0.f.s, .int .i64 a0.l.t, .int .i64 a0.l.v, .int .i64 a0.l.s].toArray) rfl (by kernel_rfl) (by kernel_rfl) (by kernel_rfl) (fun _ _ _ h => h) (yieldsIf_load_mid (by kernel_rfl) _ _ rfl (x) 0 rfl [.int .i64 a0.n, .int .i64 (hiOf a0.s), .int .u64 (loOf a0.s), .int .i64 a0.lo, .int .i64 a0.hi, .int .i64 a0.f.t, .int .i64 a0.f.v, .int .i64 a0.f.s, .int .i64 a0.l.t, .int .i64 a0.l.v, .int .i64 a0.l.s] _ (fun w' h => range_blk (h.get 0 rfl) 0 11 _ rfl (fun j _ => by simp)) Tryd.underlying28 rfl (by kernel_rfl)) hS ?_
    try simp only [List.getElem_toArray, List.getElem_cons_succ, List.getElem_cons_zero, Act.put, List.setIfInBounds_toArray, List.set_cons_zero, List.set_cons_succ]
    generalize w5.drew = wd at hS ⊢
    refine reg_call (i := 1) rfl (by kernel_rfl) (fun K hK => ?_)
    have HK := Lib.hid hK
    clear hK
    go_simp
    refine (HC.out.1 _).mono ?_
    rintro e v1 ⟨rfl, g1⟩
    have H1 := Lib.hid (hS.call g1)
    clear g1
    go_wp2_with fail
    refine HK.out.to (Own w [(x, 28, #[.int .i64 a0.n, .int .i64 (hiOf a0.s), .int .u64 (loOf a0.s), .int .i64 a0.lo, .int .i64 a0.hi, .int .i64 a0.f.t, .int .i64 a0.f.v, .int .i64 a0.f.s, .int .i64 a0.l.t, .int .i64 a0.l.v, .int .i64 a0.l.s]), (y1, 28, #[.int .i64 r.n, .int .i64 (hiOf r.s), .int .u64 (loOf r.s), .int .i64 r.lo, .int .i64 r.hi, .int .i64 r.f.t, .int .i64 r.f.v, .int .i64 r.f.s, .int .i64 r.l.t, .int .i64 r.l.v, .int .i64 r.l.s]), (y2, 35, #[.int .i64 r.n, .int .i64 (fr 0), .int .i64 (fr 1), .int .i64 (fr 2), .int .i64 (fr 3), .int .i64 (fr 4), .int .i64 (fr 5), .int .i64 (fr 6), .int .i64 (fr 7), .int .i64 r.lo, .int .i64 r.hi, .int .i64 r.f.t, .int .i64 r.f.v, .int .i64 r.f.s, .int .i64 r.l.t, .int .i64 r.l.v, .int .i64 r.l.s])]) (fun _ h => h) (H1.out) ?_
    clear HK hS
    have hS : (Own w [(x, 28, #[.int .i64 a0.n, .int .i64 (hiOf a0.s), .int .u64 (loOf a0.s), .int .i64 a0.lo, .int .i64 a0.hi, .int .i64 a0.f.t, .int .i64 a0.f.v, .int .i64 a0.f.s, .int .i64 a0.l.t, .int .i64 a0.l.v, .int .i64 a0.l.s]), (y1, 28, #[.int .i64 r.n, .int .i64 (hiOf r.s), .int .u64 (loOf r.s), .int .i64 r.lo, .int .i64 r.hi, .int .i64 r.f.t, .int .i64 r.f.v, .int .i64 r.f.s, .int .i64 r.l.t, .int .i64 r.l.v, .int .i64 r.l.s]), (y2, 35, #[.int .i64 r.n, .int .i64 (fr 0), .int .i64 (fr 1), .int .i64 (fr 2), .int .i64 (fr 3), .int .i64 (fr 4), .int .i64 (fr 5), .int .i64 (fr 6), .int .i64 (fr 7), .int .i64 r.lo, .int .i64 r.hi, .int .i64 r.f.t, .int .i64 r.f.v, .int .i64 r.f.s, .int .i64 r.l.t, .int .i64 r.l.v, .int .i64 r.l.s])]) (v1) := H1.out
    try simp only [List.getElem_toArray, List.getElem_cons_succ, List.getElem_cons_zero, Act.put, List.setIfInBounds_toArray, List.set_cons_zero, List.set_cons_succ]
    refine reg_call (i := 3) rfl (by kernel_rfl) (fun K hK => ?_)
    have HK := Lib.hid hK
    clear hK
    go_simp
    refine (HC.out.2.1 _).mono ?_
    rintro e v2 ⟨rfl, g2⟩
    have H2 := Lib.hid (hS.call g2)
    clear g2
    go_wp2_with fail
    refine HK.out.to (Own w [(x, 28, #[.int .i64 a0.n, .int .i64 (hiOf a0.s), .int .u64 (loOf a0.s), .int .i64 a0.lo, .int .i64 a0.hi, .int .i64 a0.f.t, .int .i64 a0.f.v, .int .i64 a0.f.s, .int .i64 a0.l.t, .int .i64 a0.l.v, .int .i64 a0.l.s]), (y1, 28, #[.int .i64 r.n, .int .i64 (hiOf r.s), .int .u64 (loOf r.s), .int .i64 r.lo, .int .i64 r.hi, .int .i64 r.f.t, .int .i64 r.f.v, .int .i64 r.f.s, .int .i64 r.l.t, .int .i64 r.l.v, .int .i64 r.l.s]), (y2, 35, #[.int .i64 r.n, .int .i64 (fr 0), .int .i64 (fr 1), .int .i64 (fr 2), .int .i64 (fr 3), .int .i64 (fr 4), .int .i64 (fr 5), .int .i64 (fr 6), .int .i64 (fr 7), .int .i64 r.lo, .int .i64 r.hi, .int .i64 r.f.t, .int .i64 r.f.v, .int .i64 r.f.s, .int .i64 r.l.t, .int .i64 r.l.v, .int .i64 r.l.s])]) (fun _ h => h) (H2.out) ?_
    clear HK hS
    have hS : (Own w [(x, 28, #[.int .i64 a0.n, .int .i64 (hiOf a0.s), .int .u64 (loOf a0.s), .int .i64 a0.lo, .int .i64 a0.hi, .int .i64 a0.f.t, .int .i64 a0.f.v, .int .i64 a0.f.s, .int .i64 a0.l.t, .int .i64 a0.l.v, .int .i64 a0.l.s]), (y1, 28, #[.int .i64 r.n, .int .i64 (hiOf r.s), .int .u64 (loOf r.s), .int .i64 r.lo, .int .i64 r.hi, .int .i64 r.f.t, .int .i64 r.f.v, .int .i64 r.f.s, .int .i64 r.l.t, .int .i64 r.l.v, .int .i64 r.l.s]), (y2, 35, #[.int .i64 r.n, .int .i64 (fr 0), .int .i64 (fr 1), .int .i64 (fr 2), .int .i64 (fr 3), .int .i64 (fr 4), .int .i64 (fr 5), .int .i64 (fr 6), .int .i64 (fr 7), .int .i64 r.lo, .int .i64 r.hi, .int .i64 r.f.t, .int .i64 r.f.v, .int .i64 r.f.s, .int .i64 r.l.t, .int .i64 r.l.v, .int .i64 r.l.s])]) (v2) := H2.out
    try simp only [List.getElem_toArray, List.getElem_cons_succ, List.getElem_cons_zero, Act.put, List.setIfInBounds_toArray, List.set_cons_zero, List.set_cons_succ]
    refine reg_call (i := 4) rfl (by kernel_rfl) (fun K hK => ?_)
    have HK := Lib.hid hK
    clear hK
    go_simp
    refine (HC.out.2.2.1 _).mono ?_
    rintro e v3 ⟨rfl, g3⟩
    have H3 := Lib.hid (hS.call g3)
    clear g3
    go_wp2_with fail
    refine HK.out.to (Own w [(x, 28, #[.int .i64 a0.n, .int .i64 (hiOf a0.s), .int .u64 (loOf a0.s), .int .i64 a0.lo, .int .i64 a0.hi, .int .i64 a0.f.t, .int .i64 a0.f.v, .int .i64 a0.f.s, .int .i64 a0.l.t, .int .i64 a0.l.v, .int .i64 a0.l.s]), (y1, 28, #[.int .i64 r.n, .int .i64 (hiOf r.s), .int .u64 (loOf r.s), .int .i64 r.lo, .int .i64 r.hi, .int .i64 r.f.t, .int .i64 r.f.v, .int .i64 r.f.s, .int .i64 r.l.t, .int .i64 r.l.v, .int .i64 r.l.s]), (y2, 35, #[.int .i64 r.n, .int .i64 (fr 0), .int .i64 (fr 1), .int .i64 (fr 2), .int .i64 (fr 3), .int .i64 (fr 4), .int .i64 (fr 5), .int .i64 (fr 6), .int .i64 (fr 7), .int .i64 r.lo, .int .i64 r.hi, .int .i64 r.f.t, .int .i64 r.f.v, .int .i64 r.f.s, .int .i64 r.l.t, .int .i64 r.l.v, .int .i64 r.l.s])]) (fun _ h => h) (H3.out) ?_
    clear HK hS
    have hS : (Own w [(x, 28, #[.int .i64 a0.n, .int .i64 (hiOf a0.s), .int .u64 (loOf a0.s), .int .i64 a0.lo, .int .i64 a0.hi, .int .i64 a0.f.t, .int .i64 a0.f.v, .int .i64 a0.f.s, .int .i64 a0.l.t, .int .i64 a0.l.v, .int .i64 a0.l.s]), (y1, 28, #[.int .i64 r.n, .int .i64 (hiOf r.s), .int .u64 (loOf r.s), .int .i64 r.lo, .int .i64 r.hi, .int .i64 r.f.t, .int .i64 r.f.v, .int .i64 r.f.s, .int .i64 r.l.t, .int .i64 r.l.v, .int .i64 r.l.s]), (y2, 35, #[.int .i64 r.n, .int .i64 (fr 0), .int .i64 (fr 1), .int .i64 (fr 2), .int .i64 (fr 3), .int .i64 (fr 4), .int .i64 (fr 5), .int .i64 (fr 6), .int .i64 (fr 7), .int .i64 r.lo, .int .i64 r.hi, .int .i64 r.f.t, .int .i64 r.f.v, .int .i64 r.f.s, .int .i64 r.l.t, .int .i64 r.l.v, .int .i64 r.l.s])]) (v3) := H3.out
    try simp only [List.getElem_toArray, List.getElem_cons_succ, List.getElem_cons_zero, Act.put, List.setIfInBounds_toArray, List.set_cons_zero, List.set_cons_succ]
    refine reg_take (i := 5) (v := ?_) rfl (by kernel_rfl) (by kernel_rfl) (by kernel_rfl) (fun _ _ _ h => h) (Or.inl ⟨by kernel_rfl, ?_⟩) hS ?_
    rotate_left
    · (intro w' hSw; go_simp <;> with_reducible rfl)
    try simp only [List.getElem_toArray, List.getElem_cons_succ, List.getElem_cons_zero, Act.put, List.setIfInBounds_toArray, List.set_cons_zero, List.set_cons_succ]
    refine reg_take (i := 6) (v := ?_) rfl (by kernel_rfl) (by kernel_rfl) (by kernel_rfl) (fun _ _ _ h => h) (Or.inl ⟨by kernel_rfl, ?_⟩) hS ?_
    rotate_left
    · (intro w' hSw; go_simp <;> with_reducible rfl)
    try simp only [List.getElem_toArray, List.getElem_cons_succ, List.getElem_cons_zero, Act.put, List.setIfInBounds_toArray, List.set_cons_zero, List.set_cons_succ]
    refine reg_take (i := 7) (v := ?_) rfl (by kernel_rfl) (by kernel_rfl) (by kernel_rfl) (fun _ _ _ h => h) (Or.inl ⟨by kernel_rfl, ?_⟩) hS ?_
    rotate_left
    · (intro w' hSw; go_simp <;> with_reducible rfl)
    try simp only [List.getElem_toArray, List.getElem_cons_succ, List.getElem_cons_zero, Act.put, List.setIfInBounds_toArray, List.set_cons_zero, List.set_cons_succ]
    refine reg_take (i := 8) (v := .agg [.int .i64 a0.n, .int .i64 (hiOf a0.s), .int .u64 (loOf a0.s), .int .i64 a0.lo, .int .i64 a0.hi, .int .i64 a0.f.t, .int .i64 a0.f.v, .int .i64 a0.f.s, .int .i64 a0.l.t, .int .i64 a0.l.v, .int .i64 a0.l.s].toArray) rfl (by kernel_rfl) (by kernel_rfl) (by kernel_rfl) (fun _ _ _ h => h) (yieldsIf_load_mid (by kernel_rfl) _ _ rfl (x) 0 rfl [.int .i64 a0.n, .int .i64 (hiOf a0.s), .int .u64 (loOf a0.s), .int .i64 a0.lo, .int .i64 a0.hi, .int .i64 a0.f.t, .int .i64 a0.f.v, .int .i64 a0.f.s, .int .i64 a0.l.t, .int .i64 a0.l.v, .int .i64 a0.l.s] _ (fun w' h => range_blk (h.get 0 rfl) 0 11 _ rfl (fun j _ => by simp)) Tryd.underlying28 rfl (by kernel_rfl)) hS ?_
    try simp only [List.getElem_toArray, List.getElem_cons_succ, List.getElem_cons_zero, Act.put, List.setIfInBounds_toArray, List.set_cons_zero, List.set_cons_succ]
    refine reg_take (i := 11) (v := ?_) rfl (by kernel_rfl) (by kernel_rfl) (by kernel_rfl) (fun _ _ _ h => h) (Or.inl ⟨by kernel_rfl, ?_⟩) hS ?_
    rotate_left
    · (intro w' hSw; go_simp <;> with_reducible rfl)
    try simp only [List.getElem_toArray, List.getElem_cons_succ, List.getElem_cons_zero, Act.put, List.setIfInBounds_toArray, List.set_cons_zero, List.set_cons_succ]
    refine reg_take (i := 12) (v := .agg [.int .i64 a0.n, .int .i64 (hiOf a0.s), .int .u64 (loOf a0.s), .int .i64 a0.lo, .int .i64 a0.hi, .int .i64 a0.f.t, .int .i64 a0.f.v, .int .i64 a0.f.s, .int .i64 a0.l.t, .int .i64 a0.l.v, .int .i64 a0.l.s].toArray) rfl (by kernel_rfl) (by kernel_rfl) (by kernel_rfl) (fun _ _ _ h => h) (yieldsIf_load_mid (by kernel_rfl) _ _ rfl (x) 0 rfl [.int .i64 a0.n, .int .i64 (hiOf a0.s), .int .u64 (loOf a0.s), .int .i64 a0.lo, .int .i64 a0.hi, .int .i64 a0.f.t, .int .i64 a0.f.v, .int .i64 a0.f.s, .int .i64 a0.l.t, .int .i64 a0.l.v, .int .i64 a0.l.s] _ (fun w' h => range_blk (h.get 0 rfl) 0 11 _ rfl (fun j _ => by simp)) Tryd.underlying28 rfl (by kernel_rfl)) hS ?_
    try simp only [List.getElem_toArray, List.getElem_cons_succ, List.getElem_cons_zero, Act.put, List.setIfInBounds_toArray, List.set_cons_zero, List.set_cons_succ]
    refine reg_call (i := 9) rfl (by kernel_rfl) (fun K hK => ?_)
    have HK := Lib.hid hK
    clear hK
    go_simp
    refine (aggPut_any _ a1 n cap1 bs a0 HFU.out HS.out.1 (sl_later HS.out.2.2.1 hS.bel) hnc (by omega)).mono ?_
    rintro e w6 ⟨v, rfl, ho, hb⟩
    rw [← HP.out.1, HP.out.2] at ho
    obtain ⟨A1, c1, hv1, -, -⟩ := own_form ho
    subst hv1
    have hS6 := hS.call hb
    have H6 := Lib.hid (And.intro hS6 (own_base ho (Nat.zero_le _)))
    clear ho hb hS6
    go_wp2_with fail
    refine HK.out.to (fun w' => Own w [(x, 28, #[.int .i64 a0.n, .int .i64 (hiOf a0.s), .int .u64 (loOf a0.s), .int .i64 a0.lo, .int .i64 a0.hi, .int .i64 a0.f.t, .int .i64 a0.f.v, .int .i64 a0.f.s, .int .i64 a0.l.t, .int .i64 a0.l.v, .int .i64 a0.l.s]), (y1, 28, #[.int .i64 r.n, .int .i64 (hiOf r.s), .int .u64 (loOf r.s), .int .i64 r.lo, .int .i64 r.hi, .int .i64 r.f.t, .int .i64 r.f.v, .int .i64 r.f.s, .int .i64 r.l.t, .int .i64 r.l.v, .int .i64 r.l.s]), (y2, 35, #[.int .i64 r.n, .int .i64 (fr 0), .int .i64 (fr 1), .int .i64 (fr 2), .int .i64 (fr 3), .int .i64 (fr 4), .int .i64 (fr 5), .int .i64 (fr 6), .int .i64 (fr 7), .int .i64 r.lo, .int .i64 r.hi, .int .i64 r.f.t, .int .i64 r.f.v, .int .i64 r.f.s, .int .i64 r.l.t, .int .i64 r.l.v, .int .i64 r.l.s])] w' ∧ w'.ownsRow 0 5 1 (.slice A1 pl c1) pl (P.map byteV)) (fun _ h => h.1) (H6.out) ?_
    clear HK hS
    have hS : (fun w' => Own w [(x, 28, #[.int .i64 a0.n, .int .i64 (hiOf a0.s), .int .u64 (loOf a0.s), .int .i64 a0.lo, .int .i64 a0.hi, .int .i64 a0.f.t, .int .i64 a0.f.v, .int .i64 a0.f.s, .int .i64 a0.l.t, .int .i64 a0.l.v, .int .i64 a0.l.s]), (y1, 28, #[.int .i64 r.n, .int .i64 (hiOf r.s), .int .u64 (loOf r.s), .int .i64 r.lo, .int .i64 r.hi, .int .i64 r.f.t, .int .i64 r.f.v, .int .i64 r.f.s, .int .i64 r.l.t, .int .i64 r.l.v, .int .i64 r.l.s]), (y2, 35, #[.int .i64 r.n, .int .i64 (fr 0), .int .i64 (fr 1), .int .i64 (fr 2), .int .i64 (fr 3), .int .i64 (fr 4), .int .i64 (fr 5), .int .i64 (fr 6), .int .i64 (fr 7), .int .i64 r.lo, .int .i64 r.hi, .int .i64 r.f.t, .int .i64 r.f.v, .int .i64 r.f.s, .int .i64 r.l.t, .int .i64 r.l.v, .int .i64 r.l.s])] w' ∧ w'.ownsRow 0 5 1 (.slice A1 pl c1) pl (P.map byteV)) (w6) := H6.out
    try simp only [List.getElem_toArray, List.getElem_cons_succ, List.getElem_cons_zero, Act.put, List.setIfInBounds_toArray, List.set_cons_zero, List.set_cons_succ]
    refine reg_take (i := 10) (v := ?_) rfl (by kernel_rfl) (by kernel_rfl) (by kernel_rfl) (fun _ _ _ h => h) (Or.inl ⟨by kernel_rfl, ?_⟩) hS ?_
    rotate_left
    · (intro w' hSw; have hc := conv_own (P := Tryd.prog) (c := c1) 29 5 9 Tryd.underlying29 Tryd.underlying5 Tryd.underlying9 HP.out.2 hSw.2; go_simp <;> with_reducible rfl)
    try simp only [List.getElem_toArray, List.getElem_cons_succ, List.getElem_cons_zero, Act.put, List.setIfInBounds_toArray, List.set_cons_zero, List.set_cons_succ]
    refine reg_call (i := 13) rfl (by kernel_rfl) (fun K hK => ?_)
    have HK := Lib.hid hK
    clear hK
    go_simp
    refine (HC.out.2.1 _).mono ?_
    rintro e v4 ⟨rfl, g4⟩
    have H7 := Lib.hid (And.intro (hS.1.call g4) (own_later hS.2 g4))
    clear g4
    go_wp2_with fail
    refine HK.out.to (fun w' => Own w [(x, 28, #[.int .i64 a0.n, .int .i64 (hiOf a0.s), .int .u64 (loOf a0.s), .int .i64 a0.lo, .int .i64 a0.hi, .int .i64 a0.f.t, .int .i64 a0.f.v, .int .i64 a0.f.s, .int .i64 a0.l.t, .int .i64 a0.l.v, .int .i64 a0.l.s]), (y1, 28, #[.int .i64 r.n, .int .i64 (hiOf r.s), .int .u64 (loOf r.s), .int .i64 r.lo, .int .i64 r.hi, .int .i64 r.f.t, .int .i64 r.f.v, .int .i64 r.f.s, .int .i64 r.l.t, .int .i64 r.l.v, .int .i64 r.l.s]), (y2, 35, #[.int .i64 r.n, .int .i64 (fr 0), .int .i64 (fr 1), .int .i64 (fr 2), .int .i64 (fr 3), .int .i64 (fr 4), .int .i64 (fr 5), .int .i64 (fr 6), .int .i64 (fr 7), .int .i64 r.lo, .int .i64 r.hi, .int .i64 r.f.t, .int .i64 r.f.v, .int .i64 r.f.s, .int .i64 r.l.t, .int .i64 r.l.v, .int .i64 r.l.s])] w' ∧ w'.ownsRow 0 5 1 (.slice A1 pl c1) pl (P.map byteV)) (fun _ h => h) (H7.out) ?_
    clear HK hS
    have hS : (fun w' => Own w [(x, 28, #[.int .i64 a0.n, .int .i64 (hiOf a0.s), .int .u64 (loOf a0.s), .int .i64 a0.lo, .int .i64 a0.hi, .int .i64 a0.f.t, .int .i64 a0.f.v, .int .i64 a0.f.s, .int .i64 a0.l.t, .int .i64 a0.l.v, .int .i64 a0.l.s]), (y1, 28, #[.int .i64 r.n, .int .i64 (hiOf r.s), .int .u64 (loOf r.s), .int .i64 r.lo, .int .i64 r.hi, .int .i64 r.f.t, .int .i64 r.f.v, .int .i64 r.f.s, .int .i64 r.l.t, .int .i64 r.l.v, .int .i64 r.l.s]), (y2, 35, #[.int .i64 r.n, .int .i64 (fr 0), .int .i64 (fr 1), .int .i64 (fr 2), .int .i64 (fr 3), .int .i64 (fr 4), .int .i64 (fr 5), .int .i64 (fr 6), .int .i64 (fr 7), .int .i64 r.lo, .int .i64 r.hi, .int .i64 r.f.t, .int .i64 r.f.v, .int .i64 r.f.s, .int .i64 r.l.t, .int .i64 r.l.v, .int .i64 r.l.s])] w' ∧ w'.ownsRow 0 5 1 (.slice A1 pl c1) pl (P.map byteV)) (v4) := H7.out
    try simp only [List.getElem_toArray, List.getElem_cons_succ, List.getElem_cons_zero, Act.put, List.setIfInBounds_toArray, List.set_cons_zero, List.set_cons_succ]
    refine reg_call (i := 14) rfl (by kernel_rfl) (fun K hK => ?_)
    have HK := Lib.hid hK
    clear hK
    go_simp
    refine (HC.out.2.2.2.1 _ (sl_later HS.out.2.2.1 hS.1.bel)).mono ?_
    rintro e w7 ⟨v, rfl, ho, hb⟩
    rw [← HP.out.1, HP.out.2] at ho
    obtain ⟨A2, c2, hv2, -, -⟩ := own_form ho
    subst hv2
    have hS7 := hS.1.call hb
    have H8 := Lib.hid (And.intro hS7 (And.intro (own_later hS.2 hb) (own_base ho (Nat.zero_le _))))
    clear ho hb hS7
    go_wp2_with fail
    refine HK.out.to (fun w' => Own w [(x, 28, #[.int .i64 a0.n, .int .i64 (hiOf a0.s), .int .u64 (loOf a0.s), .int .i64 a0.lo, .int .i64 a0.hi, .int .i64 a0.f.t, .int .i64 a0.f.v, .int .i64 a0.f.s, .int .i64 a0.l.t, .int .i64 a0.l.v, .int .i64 a0.l.s]), (y1, 28, #[.int .i64 r.n, .int .i64 (hiOf r.s), .int .u64 (loOf r.s), .int .i64 r.lo, .int .i64 r.hi, .int .i64 r.f.t, .int .i64 r.f.v, .int .i64 r.f.s, .int .i64 r.l.t, .int .i64 r.l.v, .int .i64 r.l.s]), (y2, 35, #[.int .i64 r.n, .int .i64 (fr 0), .int .i64 (fr 1), .int .i64 (fr 2), .int .i64 (fr 3), .int .i64 (fr 4), .int .i64 (fr 5), .int .i64 (fr 6), .int .i64 (fr 7), .int .i64 r.lo, .int .i64 r.hi, .int .i64 r.f.t, .int .i64 r.f.v, .int .i64 r.f.s, .int .i64 r.l.t, .int .i64 r.l.v, .int .i64 r.l.s])] w' ∧ w'.ownsRow 0 5 1 (.slice A1 pl c1) pl (P.map byteV) ∧ w'.ownsRow 0 5 1 (.slice A2 pl c2) pl (P.map byteV)) (fun _ h => ⟨h.1, h.2.1⟩) (H8.out) ?_
    clear HK hS
    have hS : (fun w' => Own w [(x, 28, #[.int .i64 a0.n, .int .i64 (hiOf a0.s), .int .u64 (loOf a0.s), .int .i64 a0.lo, .int .i64 a0.hi, .int .i64 a0.f.t, .int .i64 a0.f.v, .int .i64 a0.f.s, .int .i64 a0.l.t, .int .i64 a0.l.v, .int .i64 a0.l.s]), (y1, 28, #[.int .i64 r.n, .int .i64 (hiOf r.s), .int .u64 (loOf r.s), .int .i64 r.lo, .int .i64 r.hi, .int .i64 r.f.t, .int .i64 r.f.v, .int .i64 r.f.s, .int .i64 r.l.t, .int .i64 r.l.v, .int .i64 r.l.s]), (y2, 35, #[.int .i64 r.n, .int .i64 (fr 0), .int .i64 (fr 1), .int .i64 (fr 2), .int .i64 (fr 3), .int .i64 (fr 4), .int .i64 (fr 5), .int .i64 (fr 6), .int .i64 (fr 7), .int .i64 r.lo, .int .i64 r.hi, .int .i64 r.f.t, .int .i64 r.f.v, .int .i64 r.f.s, .int .i64 r.l.t, .int .i64 r.l.v, .int .i64 r.l.s])] w' ∧ w'.ownsRow 0 5 1 (.slice A1 pl c1) pl (P.map byteV) ∧ w'.ownsRow 0 5 1 (.slice A2 pl c2) pl (P.map byteV)) (w7) := H8.out
    try simp only [List.getElem_toArray, List.getElem_cons_succ, List.getElem_cons_zero, Act.put, List.setIfInBounds_toArray, List.set_cons_zero, List.set_cons_succ]
    refine reg_take (i := 15) (v := ?_) rfl (by kernel_rfl) (by kernel_rfl) (by kernel_rfl) (fun _ _ _ h => h) (Or.inl ⟨by kernel_rfl, ?_⟩) hS ?_
    rotate_left
    · (intro w' hSw; have hc := conv_own (P := Tryd.prog) (c := c2) 29 5 9 Tryd.underlying29 Tryd.underlying5 Tryd.underlying9 HP.out.2 hSw.2.2; go_simp <;> with_reducible rfl)
    try simp only [List.getElem_toArray, List.getElem_cons_succ, List.getElem_cons_zero, Act.put, List.setIfInBounds_toArray, List.set_cons_zero, List.set_cons_succ]
    refine reg_take (i := 16) (v := ?_) rfl (by kernel_rfl) (by kernel_rfl) (by kernel_rfl) (fun _ _ _ h => h) (Or.inl ⟨by kernel_rfl, ?_⟩) hS ?_
    rotate_left
    · (intro w' hSw; go_simp <;> with_reducible rfl)
    try simp only [List.getElem_toArray, List.getElem_cons_succ, List.getElem_cons_zero, Act.put, List.setIfInBounds_toArray, List.set_cons_zero, List.set_cons_succ]
    refine reg_take (i := 17) (v := ?_) rfl (by kernel_rfl) (by kernel_rfl) (by kernel_rfl) (fun _ _ _ h => h) (Or.inl ⟨by kernel_rfl, ?_⟩) hS ?_
    rotate_left
    · (intro w' hSw; go_simp <;> with_reducible rfl)
    try simp only [List.getElem_toArray, List.getElem_cons_succ, List.getElem_cons_zero, Act.put, List.setIfInBounds_toArray, List.set_cons_zero, List.set_cons_succ]
    refine reg_take (i := 18) (v := ?_) rfl (by kernel_rfl) (by kernel_rfl) (by kernel_rfl) (fun _ _ _ h => h) (Or.inl ⟨by kernel_rfl, ?_⟩) hS ?_
    rotate_left
    · (intro w' hSw; go_simp <;> with_reducible rfl)
    try simp only [List.getElem_toArray, List.getElem_cons_succ, List.getElem_cons_zero, Act.put, List.setIfInBounds_toArray, List.set_cons_zero, List.set_cons_succ]
    refine reg_take (i := 19) (v := .agg [.int .i64 r.n, .int .i64 (hiOf r.s), .int .u64 (loOf r.s), .int .i64 r.lo, .int .i64 r.hi, .int .i64 r.f.t, .int .i64 r.f.v, .int .i64 r.f.s, .int .i64 r.l.t, .int .i64 r.l.v, .int .i64 r.l.s].toArray) rfl (by kernel_rfl) (by kernel_rfl) (by kernel_rfl) (fun _ _ _ h => h) (yieldsIf_load_mid (by kernel_rfl) _ _ rfl (y1) 0 rfl [.int .i64 r.n, .int .i64 (hiOf r.s), .int .u64 (loOf r.s), .int .i64 r.lo, .int .i64 r.hi, .int .i64 r.f.t, .int .i64 r.f.v, .int .i64 r.f.s, .int .i64 r.l.t, .int .i64 r.l.v, .int .i64 r.l.s] _ (fun w' h => range_blk (h.1.get 1 rfl) 0 11 _ rfl (fun j _ => by simp)) Tryd.underlying28 rfl (by kernel_rfl)) hS ?_
    try simp only [List.getElem_toArray, List.getElem_cons_succ, List.getElem_cons_zero, Act.put, List.setIfInBounds_toArray, List.set_cons_zero, List.set_cons_succ]
    refine reg_take (i := 21) (v := .agg [.int .i64 r.n, .int .i64 (fr 0), .int .i64 (fr 1), .int .i64 (fr 2), .int .i64 (fr 3), .int .i64 (fr 4), .int .i64 (fr 5), .int .i64 (fr 6), .int .i64 (fr 7), .int .i64 r.lo, .int .i64 r.hi, .int .i64 r.f.t, .int .i64 r.f.v, .int .i64 r.f.s, .int .i64 r.l.t, .int .i64 r.l.v, .int .i64 r.l.s].toArray) rfl (by kernel_rfl) (by kernel_rfl) (by kernel_rfl) (fun _ _ _ h => h) (yieldsIf_load_mid (by kernel_rfl) _ _ rfl (y2) 0 rfl [.int .i64 r.n, .int .i64 (fr 0), .int .i64 (fr 1), .int .i64 (fr 2), .int .i64 (fr 3), .int .i64 (fr 4), .int .i64 (fr 5), .int .i64 (fr 6), .int .i64 (fr 7), .int .i64 r.lo, .int .i64 r.hi, .int .i64 r.f.t, .int .i64 r.f.v, .int .i64 r.f.s, .int .i64 r.l.t, .int .i64 r.l.v, .int .i64 r.l.s] _ (fun w' h => range_blk (h.1.get 2 rfl) 0 17 _ rfl (fun j _ => by simp)) Tryd.underlying35 rfl (by kernel_rfl)) hS ?_
    try simp only [List.getElem_toArray, List.getElem_cons_succ, List.getElem_cons_zero, Act.put, List.setIfInBounds_toArray, List.set_cons_zero, List.set_cons_succ]
    refine reg_call (i := 20) rfl (by kernel_rfl) (fun K hK => ?_)
    have HK := Lib.hid hK
    clear hK
    go_simp
    refine (HC.out.2.2.2.2 _).mono ?_
    rintro e v5 ⟨rfl, g5⟩
    have H9 := Lib.hid (And.intro (hS.1.call g5) (And.intro (own_later hS.2.1 g5) (own_later hS.2.2 g5)))
    clear g5
    go_wp2_with fail
    refine HK.out.to (fun w' => Own w [(x, 28, #[.int .i64 a0.n, .int .i64 (hiOf a0.s), .int .u64 (loOf a0.s), .int .i64 a0.lo, .int .i64 a0.hi, .int .i64 a0.f.t, .int .i64 a0.f.v, .int .i64 a0.f.s, .int .i64 a0.l.t, .int .i64 a0.l.v, .int .i64 a0.l.s]), (y1, 28, #[.int .i64 r.n, .int .i64 (hiOf r.s), .int .u64 (loOf r.s), .int .i64 r.lo, .int .i64 r.hi, .int .i64 r.f.t, .int .i64 r.f.v, .int .i64 r.f.s, .int .i64 r.l.t, .int .i64 r.l.v, .int .i64 r.l.s]), (y2, 35, #[.int .i64 r.n, .int .i64 (fr 0), .int .i64 (fr 1), .int .i64 (fr 2), .int .i64 (fr 3), .int .i64 (fr 4), .int .i64 (fr 5), .int .i64 (fr 6), .int .i64 (fr 7), .int .i64 r.lo, .int .i64 r.hi, .int .i64 r.f.t, .int .i64 r.f.v, .int .i64 r.f.s, .int .i64 r.l.t, .int .i64 r.l.v, .int .i64 r.l.s])] w' ∧ w'.ownsRow 0 5 1 (.slice A1 pl c1) pl (P.map byteV) ∧ w'.ownsRow 0 5 1 (.slice A2 pl c2) pl (P.map byteV)) (fun _ h => h) (H9.out) ?_
    clear HK hS
    have hS : (fun w' => Own w [(x, 28, #[.int .i64 a0.n, .int .i64 (hiOf a0.s), .int .u64 (loOf a0.s), .int .i64 a0.lo, .int .i64 a0.hi, .int .i64 a0.f.t, .int .i64 a0.f.v, .int .i64 a0.f.s, .int .i64 a0.l.t, .int .i64 a0.l.v, .int .i64 a0.l.s]), (y1, 28, #[.int .i64 r.n, .int .i64 (hiOf r.s), .int .u64 (loOf r.s), .int .i64 r.lo, .int .i64 r.hi, .int .i64 r.f.t, .int .i64 r.f.v, .int .i64 r.f.s, .int .i64 r.l.t, .int .i64 r.l.v, .int .i64 r.l.s]), (y2, 35, #[.int .i64 r.n, .int .i64 (fr 0), .int .i64 (fr 1), .int .i64 (fr 2), .int .i64 (fr 3), .int .i64 (fr 4), .int .i64 (fr 5), .int .i64 (fr 6), .int .i64 (fr 7), .int .i64 r.lo, .int .i64 r.hi, .int .i64 r.f.t, .int .i64 r.f.v, .int .i64 r.f.s, .int .i64 r.l.t, .int .i64 r.l.v, .int .i64 r.l.s])] w' ∧ w'.ownsRow 0 5 1 (.slice A1 pl c1) pl (P.map byteV) ∧ w'.ownsRow 0 5 1 (.slice A2 pl c2) pl (P.map byteV)) (v5) := H9.out
    try simp only [List.getElem_toArray, List.getElem_cons_succ, List.getElem_cons_zero, Act.put, List.setIfInBounds_toArray, List.set_cons_zero, List.set_cons_succ]
    refine reg_take (i := 22) (v := ?_) rfl (by kernel_rfl) (by kernel_rfl) (by kernel_rfl) (fun _ _ _ h => h) (Or.inl ⟨by kernel_rfl, ?_⟩) hS ?_
    rotate_left
    · (intro w' hSw; go_simp <;> with_reducible rfl)
    try simp only [List.getElem_toArray, List.getElem_cons_succ, List.getElem_cons_zero, Act.put, List.setIfInBounds_toArray, List.set_cons_zero, List.set_cons_succ]
    refine reg_take (i := 23) (v := ?_) rfl (by kernel_rfl) (by kernel_rfl) (by kernel_rfl) (fun _ _ _ h => h) (Or.inl ⟨by kernel_rfl, ?_⟩) hS ?_
    rotate_left
    · (intro w' hSw; go_simp <;> with_reducible rfl)
    try simp only [List.getElem_toArray, List.getElem_cons_succ, List.getElem_cons_zero, Act.put, List.setIfInBounds_toArray, List.set_cons_zero, List.set_cons_succ]
    refine reg_take (i := 24) (v := ?_) rfl (by kernel_rfl) (by kernel_rfl) (by kernel_rfl) (fun _ _ _ h => h) (Or.inl ⟨by kernel_rfl, ?_⟩) hS ?_
    rotate_left
    · (intro w' hSw; go_simp <;> with_reducible rfl)
    try simp only [List.getElem_toArray, List.getElem_cons_succ, List.getElem_cons_zero, Act.put, List.setIfInBounds_toArray, List.set_cons_zero, List.set_cons_succ]
    refine reg_take (i := 25) (v := ?_) rfl (by kernel_rfl) (by kernel_rfl) (by kernel_rfl) (fun _ _ _ h => h) (Or.inl ⟨by kernel_rfl, ?_⟩) hS ?_
    rotate_left
    · (intro w' hSw; go_simp <;> with_reducible rfl)
    try simp only [List.getElem_toArray, List.getElem_cons_succ, List.getElem_cons_zero, Act.put, List.setIfInBounds_toArray, List.set_cons_zero, List.set_cons_succ]
    refine reg_take (i := 26) (v := ?_) rfl (by kernel_rfl) (by kernel_rfl) (by kernel_rfl) (fun _ _ _ h => h) (Or.inl ⟨by kernel_rfl, ?_⟩) hS ?_
    rotate_left
    · (intro w' hSw; go_simp <;> with_reducible rfl)
    try simp only [List.getElem_toArray, List.getElem_cons_succ, List.getElem_cons_zero, Act.put, List.setIfInBounds_toArray, List.set_cons_zero, List.set_cons_succ]
    refine reg_take (i := 27) (v := ?_) rfl (by kernel_rfl) (by kernel_rfl) (by kernel_rfl) (fun _ _ _ h => h) (Or.inl ⟨by kernel_rfl, ?_⟩) hS ?_
    rotate_left
    · (intro w' hSw; go_simp <;> with_reducible rfl)
    try simp only [List.getElem_toArray, List.getElem_cons_succ, List.getElem_cons_zero, Act.put, List.setIfInBounds_toArray, List.set_cons_zero, List.set_cons_succ]
    refine reg_take (i := 28) (v := ?_) rfl (by kernel_rfl) (by kernel_rfl) (by kernel_rfl) (fun _ _ _ h => h) (Or.inl ⟨by kernel_rfl, ?_⟩) hS ?_
    rotate_left
    · (intro w' hSw; go_simp <;> with_reducible rfl)
    try simp only [List.getElem_toArray, List.getElem_cons_succ, List.getElem_cons_zero, Act.put, List.setIfInBounds_toArray, List.set_cons_zero, List.set_cons_succ]
    refine reg_take (i := 29) (v := ?_) rfl (by kernel_rfl) (by kernel_rfl) (by kernel_rfl) (fun _ _ _ h => h) (Or.inl ⟨by kernel_rfl, ?_⟩) hS ?_
    rotate_left
    · (intro w' hSw; go_simp <;> with_reducible rfl)
    try simp only [List.getElem_toArray, List.getElem_cons_succ, List.getElem_cons_zero, Act.put, List.setIfInBounds_toArray, List.set_cons_zero, List.set_cons_succ]
    refine reg_take (i := 30) (v := ?_) rfl (by kernel_rfl) (by kernel_rfl) (by kernel_rfl) (fun _ _ _ h => h) (Or.inl ⟨by kernel_rfl, ?_⟩) hS ?_
    rotate_left
    · (intro w' hSw; go_simp <;> with_reducible rfl)
    try simp only [List.getElem_toArray, List.getElem_cons_succ, List.getElem_cons_zero, Act.put, List.setIfInBounds_toArray, List.set_cons_zero, List.set_cons_succ]
    refine reg_take (i := 31) (v := ?_) rfl (by kernel_rfl) (by kernel_rfl) (by kernel_rfl) (fun _ _ _ h => h) (Or.inl ⟨by kernel_rfl, ?_⟩) hS ?_
    rotate_left
    · (intro w' hSw; go_simp <;> with_reducible rfl)
    try simp only [List.getElem_toArray, List.getElem_cons_succ, List.getElem_cons_zero, Act.put, List.setIfInBounds_toArray, List.set_cons_zero, List.set_cons_succ]
    refine reg_take (i := 32) (v := ?_) rfl (by kernel_rfl) (by kernel_rfl) (by kernel_rfl) (fun _ _ _ h => h) (Or.inl ⟨by kernel_rfl, ?_⟩) hS ?_
    rotate_left
    · (intro w' hSw; go_simp <;> with_reducible rfl)
    try simp only [List.getElem_toArray, List.getElem_cons_succ, List.getElem_cons_zero, Act.put, List.setIfInBounds_toArray, List.set_cons_zero, List.set_cons_succ]
    refine reg_take (i := 33) (v := ?_) rfl (by kernel_rfl) (by kernel_rfl) (by kernel_rfl) (fun _ _ _ h => h) (Or.inl ⟨by kernel_rfl, ?_⟩) hS ?_
    rotate_left
    · (intro w' hSw; go_simp <;> with_reducible rfl)
    try simp only [List.getElem_toArray, List.getElem_cons_succ, List.getElem_cons_zero, Act.put, List.setIfInBounds_toArray, List.set_cons_zero, List.set_cons_succ]
    refine reg_take (i := 34) (v := ?_) rfl (by kernel_rfl) (by kernel_rfl) (by kernel_rfl) (fun _ _ _ h => h) (Or.inl ⟨by kernel_rfl, ?_⟩) hS ?_
    rotate_left
    · (intro w' hSw; go_simp <;> with_reducible rfl)
    try simp only [List.getElem_toArray, List.getElem_cons_succ, List.getElem_cons_zero, Act.put, List.setIfInBounds_toArray, List.set_cons_zero, List.set_cons_succ]
    refine reg_take (i := 35) (v := ?_) rfl (by kernel_rfl) (by kernel_rfl) (by kernel_rfl) (fun _ _ _ h => h) (Or.inl ⟨by kernel_rfl, ?_⟩) hS ?_
    rotate_left
    · (intro w' hSw; go_simp <;> with_reducible rfl)
    try simp only [List.getElem_toArray, List.getElem_cons_succ, List.getElem_cons_zero, Act.put, List.setIfInBounds_toArray, List.set_cons_zero, List.set_cons_succ]
    refine reg_call (i := 36) rfl (by kernel_rfl) (fun K hK => ?_)
    have HK := Lib.hid hK
    clear hK
    go_simp
    refine (valid_zero _).mono ?_
    rintro e v6 ⟨rfl, g6⟩
    have H10 := Lib.hid (And.intro (hS.1.call g6) (And.intro (own_later hS.2.1 g6) (own_later hS.2.2 g6)))
    clear g6
    go_wp2_with fail
    refine HK.out.to (fun w' => Own w [(x, 28, #[.int .i64 a0.n, .int .i64 (hiOf a0.s), .int .u64 (loOf a0.s), .int .i64 a0.lo, .int .i64 a0.hi, .int .i64 a0.f.t, .int .i64 a0.f.v, .int .i64 a0.f.s, .int .i64 a0.l.t, .int .i64 a0.l.v, .int .i64 a0.l.s]), (y1, 28, #[.int .i64 r.n, .int .i64 (hiOf r.s), .int .u64 (loOf r.s), .int .i64 r.lo, .int .i64 r.hi, .int .i64 r.f.t, .int .i64 r.f.v, .int .i64 r.f.s, .int .i64 r.l.t, .int .i64 r.l.v, .int .i64 r.l.s]), (y2, 35, #[.int .i64 r.n, .int .i64 (fr 0), .int .i64 (fr 1), .int .i64 (fr 2), .int .i64 (fr 3), .int .i64 (fr 4), .int .i64 (fr 5), .int .i64 (fr 6), .int .i64 (fr 7), .int .i64 r.lo, .int .i64 r.hi, .int .i64 r.f.t, .int .i64 r.f.v, .int .i64 r.f.s, .int .i64 r.l.t, .int .i64 r.l.v, .int .i64 r.l.s])] w' ∧ w'.ownsRow 0 5 1 (.slice A1 pl c1) pl (P.map byteV) ∧ w'.ownsRow 0 5 1 (.slice A2 pl c2) pl (P.map byteV)) (fun _ h => h) (H10.out) ?_
    clear HK hS
    have hS : (fun w' => Own w [(x, 28, #[.int .i64 a0.n, .int .i64 (hiOf a0.s), .int .u64 (loOf a0.s), .int .i64 a0.lo, .int .i64 a0.hi, .int .i64 a0.f.t, .int .i64 a0.f.v, .int .i64 a0.f.s, .int .i64 a0.l.t, .int .i64 a0.l.v, .int .i64 a0.l.s]), (y1, 28, #[.int .i64 r.n, .int .i64 (hiOf r.s), .int .u64 (loOf r.s), .int .i64 r.lo, .int .i64 r.hi, .int .i64 r.f.t, .int .i64 r.f.v, .int .i64 r.f.s, .int .i64 r.l.t, .int .i64 r.l.v, .int .i64 r.l.s]), (y2, 35, #[.int .i64 r.n, .int .i64 (fr 0), .int .i64 (fr 1), .int .i64 (fr 2), .int .i64 (fr 3), .int .i64 (fr 4), .int .i64 (fr 5), .int .i64 (fr 6), .int .i64 (fr 7), .int .i64 r.lo, .int .i64 r.hi, .int .i64 r.f.t, .int .i64 r.f.v, .int .i64 r.f.s, .int .i64 r.l.t, .int .i64 r.l.v, .int .i64 r.l.s])] w' ∧ w'.ownsRow 0 5 1 (.slice A1 pl c1) pl (P.map byteV) ∧ w'.ownsRow 0 5 1 (.slice A2 pl c2) pl (P.map byteV)) (v6) := H10.out
    try simp only [List.getElem_toArray, List.getElem_cons_succ, List.getElem_cons_zero, Act.put, List.setIfInBounds_toArray, List.set_cons_zero, List.set_cons_succ]
    refine reg_take (i := 37) (v := ?_) rfl (by kernel_rfl) (by kernel_rfl) (by kernel_rfl) (fun _ _ _ h => h) (Or.inl ⟨by kernel_rfl, ?_⟩) hS ?_
    rotate_left
    · (intro w' hSw; go_simp <;> with_reducible rfl)
    try simp only [List.getElem_toArray, List.getElem_cons_succ, List.getElem_cons_zero, Act.put, List.setIfInBounds_toArray, List.set_cons_zero, List.set_cons_succ]
    refine reg_take (i := 38) (v := ?_) rfl (by kernel_rfl) (by kernel_rfl) (by kernel_rfl) (fun _ _ _ h => h) (Or.inl ⟨by kernel_rfl, ?_⟩) hS ?_
    rotate_left
    · (intro w' hSw; go_simp <;> with_reducible rfl)
    try simp only [List.getElem_toArray, List.getElem_cons_succ, List.getElem_cons_zero, Act.put, List.setIfInBounds_toArray, List.set_cons_zero, List.set_cons_succ]
    refine wpAnyH_done (by kernel_rfl) ?_ _
    try simp only [List.getElem_toArray, List.getElem_cons_succ, List.getElem_cons_zero]
    try simp only [List.getElem_toArray, List.getElem_cons_succ, List.getElem_cons_zero, Act.put, List.setIfInBounds_toArray, List.set_cons_zero, List.set_cons_succ]
    have HQ := Lib.hid hS.1.bel
    clear hS
    go_wp2_with fail
    go_ret
    exact ⟨rfl, HQ.out⟩
end Go.Proofs.YthhgnngpaagagaaDoor
