/-
  The walk of the law AggrMeans. (Printed by mk.py.)
-/
import Derived.Test.YthhgnngpaagagaaAgP
import Derived.Test.YthhgnngpaagagaaAgH
import Derived.Test.YthhgnngpaagagaaPoints
import Derived.Deep.DeepCutAuto
namespace Go.Proofs.Ythhgnngpaagagaa
open Go.RowKit
set_option linter.unusedVariables false
set_option linter.unusedSimpArgs false
theorem sum_bd : ∀ (l : List Pt) (a b : Int), (∀ p ∈ l, a ≤ p.v) → (∀ p ∈ l, p.v ≤ b) → a * (l.length : Int) ≤ sumV' l ∧ sumV' l ≤ b * (l.length : Int)
  | [], a, b, _, _ => by simp [sumV']
  | p :: l, a, b, h1, h2 => by
    obtain ⟨i1, i2⟩ := sum_bd l a b (fun q hq => h1 q (List.mem_cons_of_mem _ hq)) (fun q hq => h2 q (List.mem_cons_of_mem _ hq))
    have j1 := h1 p (by simp)
    have j2 := h2 p (by simp)
    rw [sumV', List.length_cons]
    simp only [Int.natCast_add, Int.mul_add]
    omega
structure MeanOk (a : Ag) (n : Nat) : Prop where
  zero : n = 0 → (meanA a).2 = false
  pos : 0 < n → (meanA a).2 = true ∧ a.lo ≤ (meanA a).1 ∧ (meanA a).1 ≤ a.hi
theorem quo_between {s n a b : Int} (hn : 0 < n) (h1 : a * n ≤ s) (h2 : s ≤ b * n) : a ≤ s / n ∧ s / n ≤ b := by
  refine ⟨(Int.le_ediv_iff_mul_le hn).2 h1, ?_⟩
  have : s / n < b + 1 := (Int.ediv_lt_iff_lt_mul hn).2 (by rw [Int.add_mul]; omega)
  omega
theorem mean_fits {a : Ag} {lo hi : Int} (hn : 0 < a.n) (h1 : lo * a.n ≤ a.s) (h2 : a.s ≤ hi * a.n) (hl : I64 lo) (hh : I64 hi) : meanA a = (a.s / a.n, true) ∧ lo ≤ a.s / a.n ∧ a.s / a.n ≤ hi := by
  obtain ⟨g1, g2⟩ := quo_between hn h1 h2
  unfold I64 at *
  refine ⟨?_, g1, g2⟩
  unfold meanA
  rw [if_neg (by omega), if_pos (by omega)]
  congr 1
  simp
  omega
theorem mean_ok (g : Nat → Pt) (hg : ∀ j, PtOk (g j)) (n : Nat) (hn : n ≤ 4294967296) : MeanOk (allA g n) n := by
  refine ⟨fun h0 => ?_, fun h0 => ?_⟩
  · subst h0; rfl
  · have h := all_has g hg n h0 hn
    have hi := allA_is g hg n hn
    obtain ⟨b1, b2⟩ := sum_bd (upTo g n) _ _ h.lo_le h.hi_le
    rw [upTo_length] at b1 b2
    have e := hi.n
    rw [← h.s, ← e] at b1 b2
    obtain ⟨m1, m2, m3⟩ := mean_fits (by omega) b1 b2 hi.lo hi.hi
    rw [m1]
    exact ⟨rfl, m2, m3⟩
/-- The points that the law's loop adds. -/
def rep (v : Int) (i : Nat) : Pt := ⟨((i % 64 : Nat) : Int), v, 0⟩
theorem rep_ok {v : Int} (hv : I64 v) (j : Nat) : PtOk (rep v j) := by
  refine ⟨?_, hv, ?_⟩
  · show I64 (((j % 64 : Nat) : Int)); unfold I64; omega
  · show I64 0; unfold I64; omega
theorem rep_end {v : Int} (hv : I64 v) (k : Nat) (hk : k < 32) : meanA (allA (rep v) (k + 1)) = (v, true) ∧ (allA (rep v) (k + 1)).l.t = k := by
  have h := all_has (rep v) (rep_ok hv) (k + 1) (by omega) (by omega)
  have hi := allA_is (rep v) (rep_ok hv) (k + 1) (by omega)
  have hv1 : ∀ p ∈ upTo (rep v) (k + 1), p.v = v := fun p hp => by
    obtain ⟨j, _, rfl⟩ := (upTo_mem _ _ _).1 hp
    rfl
  constructor
  · obtain ⟨b1, b2⟩ := sum_bd (upTo (rep v) (k + 1)) v v (fun p hp => by rw [hv1 p hp]; exact Int.le_refl _) (fun p hp => by rw [hv1 p hp]; exact Int.le_refl _)
    rw [upTo_length] at b1 b2
    have e := hi.n
    rw [← h.s, ← e] at b1 b2
    obtain ⟨m1, m2, m3⟩ := mean_fits (by omega) b1 b2 hv hv
    rw [m1, Int.le_antisymm m3 m2]
  · have h1 := h.la
    obtain ⟨j, hj, e⟩ := (upTo_mem _ _ _).1 h1
    have h2 := h.l_le (rep v k) ((upTo_mem _ _ _).2 ⟨k, by omega, rfl⟩)
    rw [← e] at h2 ⊢
    unfold ltP rep at h2
    show (((j % 64 : Nat) : Int)) = k
    simp only at h2
    omega
theorem rep_zero (v : Int) : allA (rep v) 0 = zeroA := rfl
set_option maxRecDepth 100000 in
set_option maxHeartbeats 20000000 in
theorem aggrMeans_walk (a0 : Option Addr) (len0 cap0 : Nat) (f0 : Nat → Pt) (a1 a2 : Int) (w : World) (w0 : IsPoints w a0 len0 cap0 f0) (w1 : (Lit.int .i64 a1).wf = true) (w2 : (Lit.int .i64 a2).wf = true) :
    Calls Try.prog 6 #[.slice a0 len0 cap0, .int .i64 a1, .int .i64 a2] w fun e w' => e = .returned (.bool true) ∧ Below w.heap.size w w' := by
  have hv1 := wf_i64 w1
  have hv2 := wf_i64 w2
  clear w1 w2
  obtain ⟨n, hn⟩ : ∃ n, n = min len0 100 := ⟨_, rfl⟩
  obtain ⟨g, hg, hsl⟩ := w0.cut n (by omega)
  have l1 := w0.le
  have l2 := w0.cap_le
  unfold maxLen at l2
  clear w0
  have hvI : I64 a1 := hv1
  have HF := Lib.hid (And.intro hn (And.intro hg (And.intro hsl hvI)))
  have hn3 : n ≤ 100 := by omega
  have hn4 : n ≤ cap0 := by omega
  clear hn hg hsl hvI
  go_enter Try.func6, Try.ntmps6
  go_upto_if 17 with (fail)
  go_cut [0] (fun s0 wx => s0 = .slice a0 n cap0 ∧ w = wx)
  case first =>
    by_cases h : 100 < len0
    · obtain ⟨b, off, ha, -, -⟩ := HF.out.2.2.1 (by have := HF.out.1; omega)
      subst ha
      go_wp2_with fail
      go_meet
      have : n = 100 := by have := HF.out.1; omega
      subst this
      exact ⟨rfl, rfl⟩
    · go_wp2_with fail
      go_meet
      have : n = len0 := by have := HF.out.1; omega
      subst this
      exact ⟨rfl, rfl⟩
  case rest =>
    obtain ⟨rfl, rfl⟩ := hcut
    clear l1
    go_wp2_with fail
    refine (all_any _ _ _ g _ _ HF.out.2.2.1 HF.out.2.1 (by omega)).mono ?_
    rintro e w1 ⟨rfl, hb1⟩
    have hm := mean_ok g HF.out.2.1 n (by omega)
    have hok : AgOk (allA g n) := (allA_is g HF.out.2.1 n (by omega)).ok (by omega)
    obtain ⟨a, ha⟩ : ∃ a, a = allA g n := ⟨_, rfl⟩
    rw [← ha] at hm hok ⊢
    obtain ⟨x, hx⟩ : ∃ x, x = w1.heap.size := ⟨_, rfl⟩
    have o1 := ((Own.start w).call hb1).alloc hx 29 #[.int .i64 a.n, .int .i64 (hiOf a.s), .int .u64 (loOf a.s), .int .i64 a.lo, .int .i64 a.hi, .int .i64 a.f.t, .int .i64 a.f.v, .int .i64 a.f.s, .int .i64 a.l.t, .int .i64 a.l.v, .int .i64 a.l.s]
    have HE := Lib.hid (And.intro hx (And.intro o1 (And.intro hm hok)))
    clear hx o1 hb1 ha hm hok
    go_upto_region 4 with (fail)
    rw [← HE.out.1]
    refine wp_gen (Own w [(x, 29, #[.int .i64 a.n, .int .i64 (hiOf a.s), .int .u64 (loOf a.s), .int .i64 a.lo, .int .i64 a.hi, .int .i64 a.f.t, .int .i64 a.f.v, .int .i64 a.f.s, .int .i64 a.l.t, .int .i64 a.l.v, .int .i64 a.l.s])]) HE.out.2.1 ?_
    intro w2 hS
    have z0_0 := hS.cell 0 0 rfl rfl; have z0_1 := hS.cell 0 1 rfl rfl; have z0_2 := hS.cell 0 2 rfl rfl; have z0_3 := hS.cell 0 3 rfl rfl; have z0_4 := hS.cell 0 4 rfl rfl; have z0_5 := hS.cell 0 5 rfl rfl; have z0_6 := hS.cell 0 6 rfl rfl; have z0_7 := hS.cell 0 7 rfl rfl; have z0_8 := hS.cell 0 8 rfl rfl; have z0_9 := hS.cell 0 9 rfl rfl; have z0_10 := hS.cell 0 10 rfl rfl
    have HS := Lib.hid hS
    clear hS
    go_wp2_with fail
    refine (mean_any a HE.out.2.2.2 _).mono ?_
    rintro e w3 ⟨rfl, hb3⟩
    have hS := HS.out.call hb3
    clear z0_0 z0_1 z0_2 z0_3 z0_4 z0_5 z0_6 z0_7 z0_8 z0_9 z0_10 HS hb3
    have z0_0 := hS.cell 0 0 rfl rfl; have z0_1 := hS.cell 0 1 rfl rfl; have z0_2 := hS.cell 0 2 rfl rfl; have z0_3 := hS.cell 0 3 rfl rfl; have z0_4 := hS.cell 0 4 rfl rfl; have z0_5 := hS.cell 0 5 rfl rfl; have z0_6 := hS.cell 0 6 rfl rfl; have z0_7 := hS.cell 0 7 rfl rfl; have z0_8 := hS.cell 0 8 rfl rfl; have z0_9 := hS.cell 0 9 rfl rfl; have z0_10 := hS.cell 0 10 rfl rfl
    have HS := Lib.hid hS
    clear hS
    obtain ⟨m, hm⟩ : ∃ m, m = (meanA a).1 := ⟨_, rfl⟩
    obtain ⟨ok, hok⟩ : ∃ ok, ok = (meanA a).2 := ⟨_, rfl⟩
    have hmo := HE.out.2.2.1
    have hmz := hmo.zero
    have hmp := hmo.pos
    rw [← hok] at hmz
    rw [← hok, ← hm] at hmp
    rw [← hok, ← hm]
    have HM := Lib.hid (And.intro hmz hmp)
    clear hm hok hmo hmz hmp
    go_upto_region 5 with (fail)
    go_cut [53] (fun s53 wx => s53 = .bool false ∧ w3 = wx)
    case first =>
      rcases Nat.eq_zero_or_pos n with h0 | h0
      · obtain rfl := HM.out.1 h0
        subst h0
        go_wp2_with fail
        go_meet
        exact ⟨rfl, rfl⟩
      · obtain ⟨rfl, g2, g3⟩ := HM.out.2 h0
        have d1 : decide (m < a.lo) = false := by simp; omega
        have d2 : decide (a.hi < m) = false := by simp; omega
        go_wp2_with fail
        go_meet
        exact ⟨rfl, rfl⟩
    case rest =>
      obtain ⟨rfl, rfl⟩ := hcut
      clear HM z0_0 z0_1 z0_2 z0_3 z0_4 z0_5 z0_6 z0_7 z0_8 z0_9 z0_10
      obtain ⟨y, hy⟩ : ∃ y, y = w3.heap.size := ⟨_, rfl⟩
      have o1 := HS.out.alloc hy 29 #[.int .i64 (allA (rep a1) 0).n, .int .i64 (hiOf (allA (rep a1) 0).s), .int .u64 (loOf (allA (rep a1) 0).s), .int .i64 (allA (rep a1) 0).lo, .int .i64 (allA (rep a1) 0).hi, .int .i64 (allA (rep a1) 0).f.t, .int .i64 (allA (rep a1) 0).f.v, .int .i64 (allA (rep a1) 0).f.s, .int .i64 (allA (rep a1) 0).l.t, .int .i64 (allA (rep a1) 0).l.v, .int .i64 (allA (rep a1) 0).l.s]
      have HY := Lib.hid (And.intro hy o1)
      clear hy o1 HS
      have e31 := and_mask_i64 a2 5 (by omega)
      rw [show ((2 ^ 5 - 1 : Nat) : Int) = 31 by rfl] at e31
      obtain ⟨c, hc⟩ : ∃ c, c = (a2 % (2 ^ 5 : Nat)).toNat := ⟨_, rfl⟩
      rw [← hc] at e31
      have hc32 : c < 32 := by omega
      clear hc
      go_wp2_with fail
      rw [← HY.out.1]
      go_loopw [12] (fun i wr => ∃ k : Nat, k ≤ c + 1 ∧ i = .int .i64 k ∧ Own w [(x, 29, #[.int .i64 a.n, .int .i64 (hiOf a.s), .int .u64 (loOf a.s), .int .i64 a.lo, .int .i64 a.hi, .int .i64 a.f.t, .int .i64 a.f.v, .int .i64 a.f.s, .int .i64 a.l.t, .int .i64 a.l.v, .int .i64 a.l.s]), (y, 29, #[.int .i64 (allA (rep a1) k).n, .int .i64 (hiOf (allA (rep a1) k).s), .int .u64 (loOf (allA (rep a1) k).s), .int .i64 (allA (rep a1) k).lo, .int .i64 (allA (rep a1) k).hi, .int .i64 (allA (rep a1) k).f.t, .int .i64 (allA (rep a1) k).f.v, .int .i64 (allA (rep a1) k).f.s, .int .i64 (allA (rep a1) k).l.t, .int .i64 (allA (rep a1) k).l.v, .int .i64 (allA (rep a1) k).l.s])] wr) (fun i _ => c + 1 - (intOf i).toNat)
      case atStart => exact ⟨0, Nat.zero_le _, rfl, HY.out.2⟩
      case round =>
        obtain ⟨k, hk, rfl, hS⟩ := hrel
        by_cases hlt : k < c + 1
        · have HR := Lib.hid (allA_succ (rep a1) (rep_ok HF.out.2.2.2) k (by omega))
          have HA := Lib.hid (And.intro ((allA_is (rep a1) (rep_ok HF.out.2.2.2) k (by omega)).ok (by omega)) (rep_ok HF.out.2.2.2 k))
          have hp1 : rep a1 k = ⟨(k : Int), a1, 0⟩ := by unfold rep; rw [Nat.mod_eq_of_lt (by omega)]
          rw [hp1] at HR HA
          generalize hA' : allA (rep a1) (k + 1) = a' at HR
          have HA' := Lib.hid hA'
          clear hA' hp1
          generalize allA (rep a1) k = b at hS HR HA
          have z0_0 := hS.cell 0 0 rfl rfl; have z0_1 := hS.cell 0 1 rfl rfl; have z0_2 := hS.cell 0 2 rfl rfl; have z0_3 := hS.cell 0 3 rfl rfl; have z0_4 := hS.cell 0 4 rfl rfl; have z0_5 := hS.cell 0 5 rfl rfl; have z0_6 := hS.cell 0 6 rfl rfl; have z0_7 := hS.cell 0 7 rfl rfl; have z0_8 := hS.cell 0 8 rfl rfl; have z0_9 := hS.cell 0 9 rfl rfl; have z0_10 := hS.cell 0 10 rfl rfl; have z1_0 := hS.cell 1 0 rfl rfl; have z1_1 := hS.cell 1 1 rfl rfl; have z1_2 := hS.cell 1 2 rfl rfl; have z1_3 := hS.cell 1 3 rfl rfl; have z1_4 := hS.cell 1 4 rfl rfl; have z1_5 := hS.cell 1 5 rfl rfl; have z1_6 := hS.cell 1 6 rfl rfl; have z1_7 := hS.cell 1 7 rfl rfl; have z1_8 := hS.cell 1 8 rfl rfl; have z1_9 := hS.cell 1 9 rfl rfl; have z1_10 := hS.cell 1 10 rfl rfl
          have HS := Lib.hid hS
          clear hS
          have hkc : k ≤ c := by omega
          go_wp2_with fail
          refine (aggAdd_any b ⟨(k : Int), a1, 0⟩ HA.out.1 HA.out.2 _).mono ?_
          rintro e w4 ⟨r, er, hr, rfl, hb⟩
          rw [HR.out] at hr
          injection hr with h1 h2
          subst h1 h2
          clear z0_0 z0_1 z0_2 z0_3 z0_4 z0_5 z0_6 z0_7 z0_8 z0_9 z0_10 z1_0 z1_1 z1_2 z1_3 z1_4 z1_5 z1_6 z1_7 z1_8 z1_9 z1_10
          obtain ⟨u, hu⟩ : ∃ u, u = w4.heap.size := ⟨_, rfl⟩
          have hS := (HS.out.call hb).alloc hu 29 #[.int .i64 a'.n, .int .i64 (hiOf a'.s), .int .u64 (loOf a'.s), .int .i64 a'.lo, .int .i64 a'.hi, .int .i64 a'.f.t, .int .i64 a'.f.v, .int .i64 a'.f.s, .int .i64 a'.l.t, .int .i64 a'.l.v, .int .i64 a'.l.s]
          have HU := Lib.hid (And.intro hu hS)
          clear hu hS hb HS
          go_upto_region 12 with (fail)
          rw [← HU.out.1]
          refine wp_gen (Own w [(x, 29, #[.int .i64 a.n, .int .i64 (hiOf a.s), .int .u64 (loOf a.s), .int .i64 a.lo, .int .i64 a.hi, .int .i64 a.f.t, .int .i64 a.f.v, .int .i64 a.f.s, .int .i64 a.l.t, .int .i64 a.l.v, .int .i64 a.l.s]), (y, 29, #[.int .i64 b.n, .int .i64 (hiOf b.s), .int .u64 (loOf b.s), .int .i64 b.lo, .int .i64 b.hi, .int .i64 b.f.t, .int .i64 b.f.v, .int .i64 b.f.s, .int .i64 b.l.t, .int .i64 b.l.v, .int .i64 b.l.s]), (u, 29, #[.int .i64 a'.n, .int .i64 (hiOf a'.s), .int .u64 (loOf a'.s), .int .i64 a'.lo, .int .i64 a'.hi, .int .i64 a'.f.t, .int .i64 a'.f.v, .int .i64 a'.f.s, .int .i64 a'.l.t, .int .i64 a'.l.v, .int .i64 a'.l.s])]) HU.out.2 ?_
          intro w5 hS
          have hS := hS.front 1 rfl
          have z0_0 := hS.cell 0 0 rfl rfl; have z0_1 := hS.cell 0 1 rfl rfl; have z0_2 := hS.cell 0 2 rfl rfl; have z0_3 := hS.cell 0 3 rfl rfl; have z0_4 := hS.cell 0 4 rfl rfl; have z0_5 := hS.cell 0 5 rfl rfl; have z0_6 := hS.cell 0 6 rfl rfl; have z0_7 := hS.cell 0 7 rfl rfl; have z0_8 := hS.cell 0 8 rfl rfl; have z0_9 := hS.cell 0 9 rfl rfl; have z0_10 := hS.cell 0 10 rfl rfl; have z1_0 := hS.cell 1 0 rfl rfl; have z1_1 := hS.cell 1 1 rfl rfl; have z1_2 := hS.cell 1 2 rfl rfl; have z1_3 := hS.cell 1 3 rfl rfl; have z1_4 := hS.cell 1 4 rfl rfl; have z1_5 := hS.cell 1 5 rfl rfl; have z1_6 := hS.cell 1 6 rfl rfl; have z1_7 := hS.cell 1 7 rfl rfl; have z1_8 := hS.cell 1 8 rfl rfl; have z1_9 := hS.cell 1 9 rfl rfl; have z1_10 := hS.cell 1 10 rfl rfl; have z2_0 := hS.cell 2 0 rfl rfl; have z2_1 := hS.cell 2 1 rfl rfl; have z2_2 := hS.cell 2 2 rfl rfl; have z2_3 := hS.cell 2 3 rfl rfl; have z2_4 := hS.cell 2 4 rfl rfl; have z2_5 := hS.cell 2 5 rfl rfl; have z2_6 := hS.cell 2 6 rfl rfl; have z2_7 := hS.cell 2 7 rfl rfl; have z2_8 := hS.cell 2 8 rfl rfl; have z2_9 := hS.cell 2 9 rfl rfl; have z2_10 := hS.cell 2 10 rfl rfl
          have zf0 := hS.free 0 rfl
          have HP := Lib.hid ((((OwnR.of hS rfl).put [.int .i64 a'.n, .int .i64 (hiOf a'.s), .int .u64 (loOf a'.s), .int .i64 a'.lo, .int .i64 a'.hi, .int .i64 a'.f.t, .int .i64 a'.f.v, .int .i64 a'.f.s, .int .i64 a'.l.t, .int .i64 a'.l.v, .int .i64 a'.l.s] rfl).take 2).front 1 rfl)
          clear hS HU
          go_wp2_with fail
          go_roundw
          case rel => exact ⟨k + 1, by omega, by go_num, by rw [HA'.out]; exact HP.out⟩
          case measure => simp [intOf]; omega
        · obtain rfl : k = c + 1 := by omega
          obtain ⟨r1, r2⟩ := rep_end HF.out.2.2.2 c hc32
          have hok := (allA_is (rep a1) (rep_ok HF.out.2.2.2) (c + 1) (by omega)).ok (by omega)
          generalize allA (rep a1) (c + 1) = b at hS r1 r2 hok
          have HB := Lib.hid (And.intro r1 (And.intro r2 hok))
          clear r1 r2 hok
          have z0_0 := hS.cell 0 0 rfl rfl; have z0_1 := hS.cell 0 1 rfl rfl; have z0_2 := hS.cell 0 2 rfl rfl; have z0_3 := hS.cell 0 3 rfl rfl; have z0_4 := hS.cell 0 4 rfl rfl; have z0_5 := hS.cell 0 5 rfl rfl; have z0_6 := hS.cell 0 6 rfl rfl; have z0_7 := hS.cell 0 7 rfl rfl; have z0_8 := hS.cell 0 8 rfl rfl; have z0_9 := hS.cell 0 9 rfl rfl; have z0_10 := hS.cell 0 10 rfl rfl; have z1_0 := hS.cell 1 0 rfl rfl; have z1_1 := hS.cell 1 1 rfl rfl; have z1_2 := hS.cell 1 2 rfl rfl; have z1_3 := hS.cell 1 3 rfl rfl; have z1_4 := hS.cell 1 4 rfl rfl; have z1_5 := hS.cell 1 5 rfl rfl; have z1_6 := hS.cell 1 6 rfl rfl; have z1_7 := hS.cell 1 7 rfl rfl; have z1_8 := hS.cell 1 8 rfl rfl; have z1_9 := hS.cell 1 9 rfl rfl; have z1_10 := hS.cell 1 10 rfl rfl
          have HS := Lib.hid hS
          clear hS
          go_wp2_with fail
          refine (mean_any b HB.out.2.2 _).mono ?_
          rintro e w4 ⟨rfl, hb⟩
          rw [HB.out.1]
          have hS := HS.out.call hb
          clear z0_0 z0_1 z0_2 z0_3 z0_4 z0_5 z0_6 z0_7 z0_8 z0_9 z0_10 z1_0 z1_1 z1_2 z1_3 z1_4 z1_5 z1_6 z1_7 z1_8 z1_9 z1_10 hb HS
          have z0_0 := hS.cell 0 0 rfl rfl; have z0_1 := hS.cell 0 1 rfl rfl; have z0_2 := hS.cell 0 2 rfl rfl; have z0_3 := hS.cell 0 3 rfl rfl; have z0_4 := hS.cell 0 4 rfl rfl; have z0_5 := hS.cell 0 5 rfl rfl; have z0_6 := hS.cell 0 6 rfl rfl; have z0_7 := hS.cell 0 7 rfl rfl; have z0_8 := hS.cell 0 8 rfl rfl; have z0_9 := hS.cell 0 9 rfl rfl; have z0_10 := hS.cell 0 10 rfl rfl; have z1_0 := hS.cell 1 0 rfl rfl; have z1_1 := hS.cell 1 1 rfl rfl; have z1_2 := hS.cell 1 2 rfl rfl; have z1_3 := hS.cell 1 3 rfl rfl; have z1_4 := hS.cell 1 4 rfl rfl; have z1_5 := hS.cell 1 5 rfl rfl; have z1_6 := hS.cell 1 6 rfl rfl; have z1_7 := hS.cell 1 7 rfl rfl; have z1_8 := hS.cell 1 8 rfl rfl; have z1_9 := hS.cell 1 9 rfl rfl; have z1_10 := hS.cell 1 10 rfl rfl
          rw [HB.out.2.1] at z1_8
          have HS := Lib.hid hS
          clear hS
          go_wp2_with fail
          go_ret
          exact ⟨rfl, HS.out.bel⟩
end Go.Proofs.Ythhgnngpaagagaa
