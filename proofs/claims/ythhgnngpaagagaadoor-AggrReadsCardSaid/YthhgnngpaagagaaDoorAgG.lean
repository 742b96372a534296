/-
  The contract of aggr.All, and what it has. (Printed by mk.py.)
-/
import Derived.Test.YthhgnngpaagagaaDoorAgF
namespace Go.Proofs.YthhgnngpaagagaaDoor
open Go.RowKit
set_option linter.unusedVariables false
set_option linter.unusedSimpArgs false
/-- What the first k points have. -/
def allA (f : Nat → Pt) : Nat → Ag
  | 0 => zeroA
  | k + 1 => (mergeR (allA f k) (ofA (f k))).1
structure AllIs (a : Ag) (k : Nat) : Prop where
  n : a.n = k
  s : -9223372036854775808 * (k : Int) ≤ a.s ∧ a.s ≤ 9223372036854775807 * (k : Int)
  lo : I64 a.lo
  hi : I64 a.hi
theorem AllIs.ok {a : Ag} {k : Nat} (h : AllIs a k) (hk : k ≤ 4294967296) : AgOk a := by
  obtain ⟨h1, h2, h3, h4⟩ := h
  refine ⟨?_, ?_, h3, h4⟩
  · unfold I64; omega
  · unfold S128; omega
theorem merge_of {a : Ag} {p : Pt} {k : Nat} (h : AllIs a k) (hp : PtOk p) (hk : k < 4294967296) : mergeR a (ofA p) = (if k = 0 then ofA p else mergeA a (ofA p), 0) := by
  have h1 := h.n
  obtain ⟨q1, q2, q3⟩ := hp
  unfold I64 at *
  have h2 := h.s
  unfold mergeR
  have e : (ofA p).n = 1 := rfl
  have e2 : (ofA p).s = p.v := rfl
  rw [if_neg (by omega), if_neg (by omega)]
  rcases Nat.eq_zero_or_pos k with h0 | h0
  · rw [if_pos (by omega), if_pos h0]
  · rw [if_neg (by omega), if_neg (by omega), if_neg (show ¬ k = 0 by omega), if_neg]
    rintro (hh | hh | hh)
    · apply hh
      unfold S128
      omega
    · omega
    · omega
theorem i64_ite {c : Prop} [Decidable c] {a b : Int} (ha : I64 a) (hb : I64 b) : I64 (if c then a else b) := by split <;> assumption
theorem AllIs.step {a : Ag} {p : Pt} {k : Nat} (h : AllIs a k) (hp : PtOk p) (hk : k < 4294967296) : AllIs (mergeR a (ofA p)).1 (k + 1) := by
  rw [merge_of h hp hk]
  obtain ⟨h1, h2, h3, h4⟩ := h
  obtain ⟨q1, q2, q3⟩ := hp
  have q2' := q2
  unfold I64 at q2'
  rcases Nat.eq_zero_or_pos k with h0 | h0
  · rw [if_pos h0]
    subst h0
    exact ⟨rfl, by simp only [ofA]; omega, q2, q2⟩
  · rw [if_neg (by omega)]
    refine ⟨?_, ?_, ?_, ?_⟩
    · simp only [mergeA, ofA]; omega
    · simp only [mergeA, ofA]; omega
    · exact i64_ite q2 h3
    · exact i64_ite q2 h4
theorem allA_is (f : Nat → Pt) (hf : ∀ j, PtOk (f j)) : ∀ k, k ≤ 4294967296 → AllIs (allA f k) k
  | 0, _ => ⟨rfl, by simp [allA, zeroA], by unfold I64 allA zeroA; simp, by unfold I64 allA zeroA; simp⟩
  | k + 1, h => (allA_is f hf k (by omega)).step (hf k) (by omega)
theorem allA_succ (f : Nat → Pt) (hf : ∀ j, PtOk (f j)) (k : Nat) (hk : k < 4294967296) : mergeR (allA f k) (ofA (f k)) = (allA f (k + 1), 0) := by
  have := merge_of (allA_is f hf k (by omega)) (hf k) hk
  show _ = ((mergeR (allA f k) (ofA (f k))).1, 0)
  rw [this]
def AllPost (f : Nat → Pt) (n : Nat) (w : World) (e : Ending) (w' : World) : Prop := e = .returned (.tuple #[.agg #[.int .i64 (allA f n).n, .int .i64 (hiOf (allA f n).s), .int .u64 (loOf (allA f n).s), .int .i64 (allA f n).lo, .int .i64 (allA f n).hi, .int .i64 (allA f n).f.t, .int .i64 (allA f n).f.v, .int .i64 (allA f n).f.s, .int .i64 (allA f n).l.t, .int .i64 (allA f n).l.v, .int .i64 (allA f n).l.s], .int .i64 0]) ∧ Below w.heap.size w w'
set_option maxRecDepth 100000 in
set_option maxHeartbeats 4000000 in
theorem all_any (A : Option Addr) (n c : Nat) (f : Nat → Pt) (D : Nat → Prop) (w : World) (hsl : SlP w D A n f) (hf : ∀ j, PtOk (f j)) (hn : n ≤ 4294967296) :
    Calls Tryd.prog 12 #[.slice A n c] w (AllPost f n w) := by
  obtain ⟨x, hx⟩ : ∃ x, x = w.heap.size := ⟨_, rfl⟩
  have o0 : Own w [(x + 1, 28, #[.int .i64 (allA f 0).n, .int .i64 (hiOf (allA f 0).s), .int .u64 (loOf (allA f 0).s), .int .i64 (allA f 0).lo, .int .i64 (allA f 0).hi, .int .i64 (allA f 0).f.t, .int .i64 (allA f 0).f.v, .int .i64 (allA f 0).f.s, .int .i64 (allA f 0).l.t, .int .i64 (allA f 0).l.v, .int .i64 (allA f 0).l.s]), (x, 28, #[.int .i64 0, .int .i64 0, .int .u64 0, .int .i64 0, .int .i64 0, .int .i64 0, .int .i64 0, .int .i64 0, .int .i64 0, .int .i64 0, .int .i64 0])] _ := (Own.own2 w hx 28 #[.int .i64 0, .int .i64 0, .int .u64 0, .int .i64 0, .int .i64 0, .int .i64 0, .int .i64 0, .int .i64 0, .int .i64 0, .int .i64 0, .int .i64 0] 28 #[.int .i64 0, .int .i64 0, .int .u64 0, .int .i64 0, .int .i64 0, .int .i64 0, .int .i64 0, .int .i64 0, .int .i64 0, .int .i64 0, .int .i64 0]).front 1 rfl
  have HO := Lib.hid (And.intro hx (And.intro o0 (And.intro hsl hf)))
  clear hx o0 hsl hf
  go_enter Tryd.func12, Tryd.ntmps12
  go_wp2_with fail
  rw [← HO.out.1]
  go_loopw [10] (fun i wr => ∃ k : Nat, k ≤ n ∧ i = .int .i64 k ∧ Own w [(x + 1, 28, #[.int .i64 (allA f k).n, .int .i64 (hiOf (allA f k).s), .int .u64 (loOf (allA f k).s), .int .i64 (allA f k).lo, .int .i64 (allA f k).hi, .int .i64 (allA f k).f.t, .int .i64 (allA f k).f.v, .int .i64 (allA f k).f.s, .int .i64 (allA f k).l.t, .int .i64 (allA f k).l.v, .int .i64 (allA f k).l.s]), (x, 28, #[.int .i64 0, .int .i64 0, .int .u64 0, .int .i64 0, .int .i64 0, .int .i64 0, .int .i64 0, .int .i64 0, .int .i64 0, .int .i64 0, .int .i64 0])] wr) (fun i _ => n - (intOf i).toNat)
  case atStart => exact ⟨0, Nat.zero_le _, rfl, HO.out.2.1⟩
  case round =>
    obtain ⟨k, hk, rfl, hS⟩ := hrel
    by_cases hlt : k < n
    · obtain ⟨b, off, rfl, -, hc⟩ := (HO.out.2.2.1.below hS.bel) (by omega)
      obtain ⟨k0, k1, k2⟩ := hc k hlt
      clear hc
      have HR := Lib.hid (allA_succ f HO.out.2.2.2 k (by omega))
      have HA := Lib.hid (And.intro ((allA_is f HO.out.2.2.2 k (by omega)).ok (by omega)) (HO.out.2.2.2 k))
      generalize hA' : allA f (k + 1) = a' at HR
      have HA' := Lib.hid hA'
      clear hA'
      generalize allA f k = a at hS HR HA
      generalize f k = p at k0 k1 k2 HR HA
      obtain ⟨y, hy⟩ : ∃ y, y = wr.heap.size := ⟨_, rfl⟩
      have o1 := hS.alloc hy 26 #[.int .i64 p.t, .int .i64 p.v, .int .i64 p.s]
      have HY := Lib.hid (And.intro hy o1)
      clear hy o1 hS
      go_upto_region 5 with (fail)
      rw [← HY.out.1]
      have hS := HY.out.2
      clear k0 k1 k2 HY
      generalize World.alloc _ _ = w1 at hS ⊢
      have z0_0 := hS.cell 0 0 rfl rfl; have z0_1 := hS.cell 0 1 rfl rfl; have z0_2 := hS.cell 0 2 rfl rfl; have z0_3 := hS.cell 0 3 rfl rfl; have z0_4 := hS.cell 0 4 rfl rfl; have z0_5 := hS.cell 0 5 rfl rfl; have z0_6 := hS.cell 0 6 rfl rfl; have z0_7 := hS.cell 0 7 rfl rfl; have z0_8 := hS.cell 0 8 rfl rfl; have z0_9 := hS.cell 0 9 rfl rfl; have z0_10 := hS.cell 0 10 rfl rfl; have z1_0 := hS.cell 1 0 rfl rfl; have z1_1 := hS.cell 1 1 rfl rfl; have z1_2 := hS.cell 1 2 rfl rfl; have z1_3 := hS.cell 1 3 rfl rfl; have z1_4 := hS.cell 1 4 rfl rfl; have z1_5 := hS.cell 1 5 rfl rfl; have z1_6 := hS.cell 1 6 rfl rfl; have z1_7 := hS.cell 1 7 rfl rfl; have z1_8 := hS.cell 1 8 rfl rfl; have z1_9 := hS.cell 1 9 rfl rfl; have z1_10 := hS.cell 1 10 rfl rfl; have z2_0 := hS.cell 2 0 rfl rfl; have z2_1 := hS.cell 2 1 rfl rfl; have z2_2 := hS.cell 2 2 rfl rfl
      have HS := Lib.hid hS
      clear hS
      go_wp2_with fail
      refine (aggAdd_any a p HA.out.1 HA.out.2 _).mono ?_
      rintro e w2 ⟨r, er, hr, rfl, hb⟩
      rw [HR.out] at hr
      injection hr with h1 h2
      subst h1 h2
      clear z0_0 z0_1 z0_2 z0_3 z0_4 z0_5 z0_6 z0_7 z0_8 z0_9 z0_10 z1_0 z1_1 z1_2 z1_3 z1_4 z1_5 z1_6 z1_7 z1_8 z1_9 z1_10 z2_0 z2_1 z2_2
      have hS := HS.out.call hb
      have z0_0 := hS.cell 0 0 rfl rfl; have z0_1 := hS.cell 0 1 rfl rfl; have z0_2 := hS.cell 0 2 rfl rfl; have z0_3 := hS.cell 0 3 rfl rfl; have z0_4 := hS.cell 0 4 rfl rfl; have z0_5 := hS.cell 0 5 rfl rfl; have z0_6 := hS.cell 0 6 rfl rfl; have z0_7 := hS.cell 0 7 rfl rfl; have z0_8 := hS.cell 0 8 rfl rfl; have z0_9 := hS.cell 0 9 rfl rfl; have z0_10 := hS.cell 0 10 rfl rfl; have z1_0 := hS.cell 1 0 rfl rfl; have z1_1 := hS.cell 1 1 rfl rfl; have z1_2 := hS.cell 1 2 rfl rfl; have z1_3 := hS.cell 1 3 rfl rfl; have z1_4 := hS.cell 1 4 rfl rfl; have z1_5 := hS.cell 1 5 rfl rfl; have z1_6 := hS.cell 1 6 rfl rfl; have z1_7 := hS.cell 1 7 rfl rfl; have z1_8 := hS.cell 1 8 rfl rfl; have z1_9 := hS.cell 1 9 rfl rfl; have z1_10 := hS.cell 1 10 rfl rfl; have z2_0 := hS.cell 2 0 rfl rfl; have z2_1 := hS.cell 2 1 rfl rfl; have z2_2 := hS.cell 2 2 rfl rfl
      have zf0 := hS.free 0 rfl
      have HP := Lib.hid (((OwnR.of hS rfl).put [.int .i64 a'.n, .int .i64 (hiOf a'.s), .int .u64 (loOf a'.s), .int .i64 a'.lo, .int .i64 a'.hi, .int .i64 a'.f.t, .int .i64 a'.f.v, .int .i64 a'.f.s, .int .i64 a'.l.t, .int .i64 a'.l.v, .int .i64 a'.l.s] rfl).take 2)
      clear hS hb HS
      go_wp2_with fail
      go_roundw
      case rel => exact ⟨k + 1, by omega, by go_num, by rw [HA'.out]; exact HP.out⟩
      case measure => simp [intOf]; omega
    · obtain rfl : k = n := by omega
      generalize hA : allA f k = a at hS
      have HA := Lib.hid hA
      clear hA
      have hS := hS.front 1 rfl
      have z0_0 := hS.cell 0 0 rfl rfl; have z0_1 := hS.cell 0 1 rfl rfl; have z0_2 := hS.cell 0 2 rfl rfl; have z0_3 := hS.cell 0 3 rfl rfl; have z0_4 := hS.cell 0 4 rfl rfl; have z0_5 := hS.cell 0 5 rfl rfl; have z0_6 := hS.cell 0 6 rfl rfl; have z0_7 := hS.cell 0 7 rfl rfl; have z0_8 := hS.cell 0 8 rfl rfl; have z0_9 := hS.cell 0 9 rfl rfl; have z0_10 := hS.cell 0 10 rfl rfl; have z1_0 := hS.cell 1 0 rfl rfl; have z1_1 := hS.cell 1 1 rfl rfl; have z1_2 := hS.cell 1 2 rfl rfl; have z1_3 := hS.cell 1 3 rfl rfl; have z1_4 := hS.cell 1 4 rfl rfl; have z1_5 := hS.cell 1 5 rfl rfl; have z1_6 := hS.cell 1 6 rfl rfl; have z1_7 := hS.cell 1 7 rfl rfl; have z1_8 := hS.cell 1 8 rfl rfl; have z1_9 := hS.cell 1 9 rfl rfl; have z1_10 := hS.cell 1 10 rfl rfl
      have zf0 := hS.free 0 rfl
      have HS := Lib.hid hS
      clear hS
      go_wp2_with fail
      exact bodyPost_ret (v := .tuple #[.agg #[.int .i64 a.n, .int .i64 (hiOf a.s), .int .u64 (loOf a.s), .int .i64 a.lo, .int .i64 a.hi, .int .i64 a.f.t, .int .i64 a.f.v, .int .i64 a.f.s, .int .i64 a.l.t, .int .i64 a.l.v, .int .i64 a.l.s], .int .i64 0]) (by simp [results, Tryd.results12, go_sem, z0_0, z0_1, z0_2, z0_3, z0_4, z0_5, z0_6, z0_7, z0_8, z0_9, z0_10]) rfl ⟨by rw [HA.out], ((OwnR.of HS.out rfl).put [.int .i64 a.n, .int .i64 (hiOf a.s), .int .u64 (loOf a.s), .int .i64 a.lo, .int .i64 a.hi, .int .i64 a.f.t, .int .i64 a.f.v, .int .i64 a.f.s, .int .i64 a.l.t, .int .i64 a.l.v, .int .i64 a.l.s] rfl).bel⟩
end Go.Proofs.YthhgnngpaagagaaDoor
