/-
  The walk of the law AggrOrder. (Printed by mk.py.)
-/
import Derived.Test.YthhgnngpaagagaaAgM
import Derived.Test.YthhgnngpaagagaaPtRow
import Derived.Test.YthhgnngpaagagaaPoints
namespace Go.Proofs.Ythhgnngpaagagaa
open Go.RowKit
set_option linter.unusedVariables false
set_option linter.unusedSimpArgs false
theorem cut_in (a : Int) (k : Nat) (hk : k ≤ 100) : ∃ m : Nat, (wrap64 (wrap64 (a.tmod ((k : Int) + 1) + k) + 1)).tmod ((k : Int) + 1) = (m : Int) ∧ m ≤ k := by
  have h1 := Int.tmod_lt_of_pos a (b := (k : Int) + 1) (by omega)
  have h2 := Int.lt_tmod_of_pos a (b := (k : Int) + 1) (by omega)
  generalize a.tmod ((k : Int) + 1) = t at *
  have e1 : wrap64 (t + k) = t + k := by unfold wrap64; omega
  rw [e1]
  have e2 : wrap64 (t + k + 1) = t + k + 1 := by unfold wrap64; omega
  rw [e2, Int.tmod_eq_emod_of_nonneg (by omega)]
  have h3 := Int.emod_nonneg (t + k + 1) (b := (k : Int) + 1) (by omega)
  have h4 := Int.emod_lt_of_pos (t + k + 1) (b := (k : Int) + 1) (by omega)
  exact ⟨((t + k + 1) % ((k : Int) + 1)).toNat, by omega, by omega⟩
theorem upTo_ok (f : Nat → Pt) (hf : ∀ j, PtOk (f j)) (n j : Nat) : PtOk ((upTo f n).getD j ⟨0, 0, 0⟩) := by
  rw [List.getD_eq_getElem?_getD]
  rcases Nat.lt_or_ge j n with h | h
  · simp [upTo, h]; exact hf j
  · simp [upTo, h]
    exact ⟨by unfold I64; simp, by unfold I64; simp, by unfold I64; simp⟩
set_option maxRecDepth 100000 in
set_option maxHeartbeats 20000000 in
theorem aggrOrder_walk (a0 : Option Addr) (len0 cap0 : Nat) (f0 : Nat → Pt) (a1 : Int) (w : World) (w0 : IsPoints w a0 len0 cap0 f0) (w1 : (Lit.int .i64 a1).wf = true) :
    Calls Try.prog 4 #[.slice a0 len0 cap0, .int .i64 a1] w fun e w' => e = .returned (.bool true) ∧ Below w.heap.size w w' := by
  have hc := wf_i64 w1
  clear w1
  obtain ⟨n, hn⟩ : ∃ n, n = min len0 100 := ⟨_, rfl⟩
  obtain ⟨g, hg, hsl⟩ := w0.cut n (by omega)
  have l1 := w0.le
  have l2 := w0.cap_le
  unfold maxLen at l2
  clear w0
  have HF := Lib.hid (And.intro hn (And.intro hg hsl))
  have hn3 : n ≤ 100 := by omega
  have hn4 : n ≤ cap0 := by omega
  clear hn hg hsl
  go_enter Try.func4, Try.ntmps4
  go_upto_if 19 with (fail)
  go_cut [0] (fun s0 wx => s0 = .slice a0 n cap0 ∧ w = wx)
  case first =>
    by_cases h : 100 < len0
    · obtain ⟨b, off, ha, -, -⟩ := HF.out.2.2 (by have := HF.out.1; omega)
      subst ha
      go_wp2_with fail
      go_meet
      have : n = 100 := by have := HF.out.1; omega
      subst this
      exact ⟨rfl, rfl⟩
    · go_wp2_with fail
      go_meet
      have : n = len0 := by have := HF.out.1; omega
      subst this
      exact ⟨rfl, rfl⟩
  case rest =>
    obtain ⟨rfl, rfl⟩ := hcut
    clear l1
    go_wp2_with fail
    refine (all_any _ _ _ g _ _ HF.out.2.2 HF.out.2.1 (by omega)).mono ?_
    rintro e w1 ⟨rfl, hb1⟩
    obtain ⟨a, ha⟩ : ∃ a, a = allA g n := ⟨_, rfl⟩
    rw [← ha]
    have hrev : ∀ l, l = upTo (fun j => g (n - 1 - j)) n → allA (fun j => l.getD j ⟨0, 0, 0⟩) n = a := by
      intro l hl
      rw [all_congr (g := fun j => g (n - 1 - j)) n (fun j hj => by rw [hl]; simp [upTo, List.getD_eq_getElem?_getD, hj]), all_rev g HF.out.2.1 n (by omega), ha]
    have hcut : ∀ m k, m + k = n → mergeR (allA (fun j => g (m + j)) k) (allA g m) = (a, 0) := fun m k h => by rw [all_cut g HF.out.2.1 m k (by omega), h, ha]
    have hval : validA a = true := by rw [ha]; exact all_valid g HF.out.2.1 n (by omega)
    have hok : AgOk a := by rw [ha]; exact (allA_is g HF.out.2.1 n (by omega)).ok (by omega)
    have hn5 : a.n = n := by rw [ha]; exact (allA_is g HF.out.2.1 n (by omega)).n
    obtain ⟨x, hx⟩ : ∃ x, x = w1.heap.size := ⟨_, rfl⟩
    have o1 := ((Own.start w).call hb1).alloc hx 29 #[.int .i64 a.n, .int .i64 (hiOf a.s), .int .u64 (loOf a.s), .int .i64 a.lo, .int .i64 a.hi, .int .i64 a.f.t, .int .i64 a.f.v, .int .i64 a.f.s, .int .i64 a.l.t, .int .i64 a.l.v, .int .i64 a.l.s]
    have HE := Lib.hid (And.intro hx (And.intro o1 (And.intro hrev (And.intro hcut (And.intro hval (And.intro hok hn5))))))
    clear hx o1 hb1 ha hrev hcut hval hok hn5
    go_wp2_with fail
    rw [← HE.out.1]
    refine wp_gen (Own w [(x, 29, #[.int .i64 a.n, .int .i64 (hiOf a.s), .int .u64 (loOf a.s), .int .i64 a.lo, .int .i64 a.hi, .int .i64 a.f.t, .int .i64 a.f.v, .int .i64 a.f.s, .int .i64 a.l.t, .int .i64 a.l.v, .int .i64 a.l.s])]) HE.out.2.1 ?_
    intro w2 hS
    have HS := Lib.hid hS
    clear hS
    go_loopw [7, 8] (fun s7 i wr => ∃ (k : Nat), k ≤ n ∧ i = .int .i64 ((n : Int) - 1 - k) ∧ PtRow wr w.heap.size s7 (upTo (fun j => g (n - 1 - j)) k) ∧ Own w [(x, 29, #[.int .i64 a.n, .int .i64 (hiOf a.s), .int .u64 (loOf a.s), .int .i64 a.lo, .int .i64 a.hi, .int .i64 a.f.t, .int .i64 a.f.v, .int .i64 a.f.s, .int .i64 a.l.t, .int .i64 a.l.v, .int .i64 a.l.s])] wr) (fun _ i _ => ((intOf i) + 1).toNat)
    case atStart => exact ⟨0, Nat.zero_le _, by simp, PtRow.nil _ _, HS.out⟩
    case round =>
      obtain ⟨k, hk, rfl, hrow, hS⟩ := hrel
      by_cases hlt : k < n
      · obtain ⟨b, off, rfl, -, hc⟩ := (HF.out.2.2.below hS.bel) (by omega)
        obtain ⟨k0, k1, k2⟩ := hc (n - 1 - k) (by omega)
        clear hc
        have HR := Lib.hid (upTo_succ (fun j => g (n - 1 - j)) k)
        have HL := Lib.hid (upTo_length (fun j => g (n - 1 - j)) k)
        generalize upTo (fun j => g (n - 1 - j)) k = l at hrow HR HL
        generalize hp : g (n - 1 - k) = p at k0 k1 k2 HR
        have HP := Lib.hid hp
        clear hp
        obtain ⟨A, c, rfl, hlc⟩ := hrow.form
        have HT := Lib.hid (And.intro hrow hS)
        clear hrow hS hlc
        obtain ⟨q, hq⟩ : ∃ q, q = n - 1 - k := ⟨_, rfl⟩
        rw [← hq] at k0 k1 k2
        have eq : (n : Int) - 1 - (k : Int) = (q : Int) := by omega
        rw [eq]
        have hqn : q < n := by omega
        have r1 := HT.out.1.below ((Below.refl wr.heap.size wr).alloc (Nat.le_refl _) (.cells #[.int .i64 p.t, .int .i64 p.v, .int .i64 p.s] 27))
        have r2 := Blk.fresh wr 27 #[.int .i64 p.t, .int .i64 p.v, .int .i64 p.s]
        have r3 : l.length < 4294967296 := by have := HL.out; omega
        have r4 : w.heap.size ≤ (wr.alloc (.cells #[.int .i64 p.t, .int .i64 p.v, .int .i64 p.s] 27)).heap.size := by have := HT.out.2.size; simp; omega
        have HX := Lib.hid (And.intro r1 (And.intro r2 (And.intro r3 r4)))
        have HQ := Lib.hid (And.intro hq (And.intro eq hqn))
        clear r1 r2 r3 r4 hq eq
        go_wp2_with (at_builtin; refine wpList_append_pt (p := p) rfl _ _ rfl rfl rfl HX.out.1 HX.out.2.1 HX.out.2.2.1 HX.out.2.2.2 ?_; intro v' w3 h1 h2 h3)
        go_roundw
        case rel =>
          refine ⟨k + 1, by omega, ?_, ?_, ?_⟩
          · have := HQ.out
            congr 1
            omega
          · rw [HR.out]; exact h1
          · have hx1 : Own w [(x, 29, #[.int .i64 a.n, .int .i64 (hiOf a.s), .int .u64 (loOf a.s), .int .i64 a.lo, .int .i64 a.hi, .int .i64 a.f.t, .int .i64 a.f.v, .int .i64 a.f.s, .int .i64 a.l.t, .int .i64 a.l.v, .int .i64 a.l.s])] (wr.alloc (.cells #[.int .i64 p.t, .int .i64 p.v, .int .i64 p.s] 27)) := (HT.out.2.alloc rfl _ _).take 1
            refine hx1.grown h2 (fun q hq => ⟨(HX.out.1.ownBlock_lt q hq).1, fun b hb => ?_⟩)
            have hb := List.mem_singleton.1 hb
            subst hb
            rintro rfl
            exact own_ne HX.out.1 (hx1.get 0 rfl) (by decide) hq
        case measure =>
          have := HQ.out
          simp [intOf]
          try omega
      · obtain rfl : k = n := by omega
        rw [show (k : Int) - 1 - (k : Int) = -1 by omega]
        have HL := Lib.hid (upTo_length (fun j => g (k - 1 - j)) k)
        have HV := Lib.hid (And.intro (HE.out.2.2.1 _ rfl) (upTo_ok (fun j => g (k - 1 - j)) (fun j => HF.out.2.1 _) k))
        generalize upTo (fun j => g (k - 1 - j)) k = l at hrow HL HV
        obtain ⟨A, c, rfl, hlc⟩ := hrow.form
        have hsl := hrow.sl
        rw [HL.out]
        rw [HL.out] at hsl
        have HT := Lib.hid (And.intro hsl hS)
        clear hrow hS hlc hsl hlt hk
        go_wp2_with fail
        refine (all_any _ _ _ (fun j => l.getD j ⟨0, 0, 0⟩) _ _ HT.out.1 HV.out.2 (by omega)).mono ?_
        rintro e w4 ⟨rfl, hb4⟩
        rw [HV.out.1]
        obtain ⟨y, hy⟩ : ∃ y, y = w4.heap.size := ⟨_, rfl⟩
        have o1 := (HT.out.2.call hb4).alloc hy 29 #[.int .i64 a.n, .int .i64 (hiOf a.s), .int .u64 (loOf a.s), .int .i64 a.lo, .int .i64 a.hi, .int .i64 a.f.t, .int .i64 a.f.v, .int .i64 a.f.s, .int .i64 a.l.t, .int .i64 a.l.v, .int .i64 a.l.s]
        have HY := Lib.hid (And.intro hy o1)
        clear hy o1 hb4 HT
        go_upto_region 11 with (fail)
        rw [← HY.out.1]
        refine wp_gen (Own w [(x, 29, #[.int .i64 a.n, .int .i64 (hiOf a.s), .int .u64 (loOf a.s), .int .i64 a.lo, .int .i64 a.hi, .int .i64 a.f.t, .int .i64 a.f.v, .int .i64 a.f.s, .int .i64 a.l.t, .int .i64 a.l.v, .int .i64 a.l.s]), (y, 29, #[.int .i64 a.n, .int .i64 (hiOf a.s), .int .u64 (loOf a.s), .int .i64 a.lo, .int .i64 a.hi, .int .i64 a.f.t, .int .i64 a.f.v, .int .i64 a.f.s, .int .i64 a.l.t, .int .i64 a.l.v, .int .i64 a.l.s])]) HY.out.2 ?_
        intro w5 hS
        clear HY
        obtain ⟨m, hm, hmk⟩ := cut_in a1 k hn3
        rw [hm]
        have HS := Lib.hid (And.intro hS hm)
        clear hS hm
        have hmg := HE.out.2.2.2.1 m (k - m) (by omega)
        have g1 := (allA_is g HF.out.2.1 m (by omega)).ok (by omega)
        have g2 := (allA_is (fun j => g (m + j)) (fun j => HF.out.2.1 _) (k - m) (by omega)).ok (by omega)
        obtain ⟨c2, hc2⟩ : ∃ c2, c2 = allA g m := ⟨_, rfl⟩
        obtain ⟨c1, hc1⟩ : ∃ c1, c1 = allA (fun j => g (m + j)) (k - m) := ⟨_, rfl⟩
        rw [← hc1, ← hc2] at hmg
        rw [← hc2] at g1
        rw [← hc1] at g2
        have hC1 : ∀ q, q = m → allA g q = c2 := fun q hq => by rw [hc2, hq]
        have hC2 : ∀ q, q = k - m → allA (fun j => g (m + j)) q = c1 := fun q hq => by rw [hc1, hq]
        have HG := Lib.hid (And.intro hmg (And.intro g1 g2))
        have HC := Lib.hid (And.intro hC1 hC2)
        clear hmg g1 g2 hC1 hC2 hc1 hc2
        rcases Nat.eq_zero_or_pos k with h0 | h0
        · subst h0
          obtain rfl : m = 0 := by omega
          have HDN : Hid ((a.n == 0) = true) := Lib.hid (by rw [HE.out.2.2.2.2.2.2]; simp)
          cases a0 with
          | none =>
            go_wp2_with fail
            refine (all_any _ _ _ g _ _ ((HF.out.2.2.take hmk).below HS.out.1.bel) HF.out.2.1 (by omega)).mono ?_
            rintro e w6 ⟨rfl, hb6⟩
            rw [HC.out.1 _ rfl]
            obtain ⟨z, hz⟩ : ∃ z, z = w6.heap.size := ⟨_, rfl⟩
            have o1 := (HS.out.1.call hb6).alloc hz 29 #[.int .i64 c2.n, .int .i64 (hiOf c2.s), .int .u64 (loOf c2.s), .int .i64 c2.lo, .int .i64 c2.hi, .int .i64 c2.f.t, .int .i64 c2.f.v, .int .i64 c2.f.s, .int .i64 c2.l.t, .int .i64 c2.l.v, .int .i64 c2.l.s]
            have HZ := Lib.hid (And.intro hz o1)
            clear hz o1 hb6
            go_wp2_with fail
            refine (all_any _ _ _ (fun j => g (0 + j)) (fun _ => True) _ (SlP.nil _ _ _ _) (fun j => HF.out.2.1 _) (by omega)).mono ?_
            rintro e w7 ⟨rfl, hb7⟩
            obtain ⟨v, hv⟩ : ∃ v, v = w7.heap.size := ⟨_, rfl⟩
            rw [HC.out.2 _ (by omega)]
            have o2 := (HZ.out.2.call hb7).alloc hv 29 #[.int .i64 c1.n, .int .i64 (hiOf c1.s), .int .u64 (loOf c1.s), .int .i64 c1.lo, .int .i64 c1.hi, .int .i64 c1.f.t, .int .i64 c1.f.v, .int .i64 c1.f.s, .int .i64 c1.l.t, .int .i64 c1.l.v, .int .i64 c1.l.s]
            have HU := Lib.hid (And.intro hv o2)
            clear hv o2 hb7
            go_upto_region 13 with (fail)
            rw [← HZ.out.1, ← HU.out.1]
            have hG := HG.out
            refine wp_gen (Own w [(x, 29, #[.int .i64 a.n, .int .i64 (hiOf a.s), .int .u64 (loOf a.s), .int .i64 a.lo, .int .i64 a.hi, .int .i64 a.f.t, .int .i64 a.f.v, .int .i64 a.f.s, .int .i64 a.l.t, .int .i64 a.l.v, .int .i64 a.l.s]), (y, 29, #[.int .i64 a.n, .int .i64 (hiOf a.s), .int .u64 (loOf a.s), .int .i64 a.lo, .int .i64 a.hi, .int .i64 a.f.t, .int .i64 a.f.v, .int .i64 a.f.s, .int .i64 a.l.t, .int .i64 a.l.v, .int .i64 a.l.s]), (z, 29, #[.int .i64 c2.n, .int .i64 (hiOf c2.s), .int .u64 (loOf c2.s), .int .i64 c2.lo, .int .i64 c2.hi, .int .i64 c2.f.t, .int .i64 c2.f.v, .int .i64 c2.f.s, .int .i64 c2.l.t, .int .i64 c2.l.v, .int .i64 c2.l.s]), (v, 29, #[.int .i64 c1.n, .int .i64 (hiOf c1.s), .int .u64 (loOf c1.s), .int .i64 c1.lo, .int .i64 c1.hi, .int .i64 c1.f.t, .int .i64 c1.f.v, .int .i64 c1.f.s, .int .i64 c1.l.t, .int .i64 c1.l.v, .int .i64 c1.l.s])]) HU.out.2 ?_
            intro w8 hS
            have z0_0 := hS.cell 0 0 rfl rfl; have z0_1 := hS.cell 0 1 rfl rfl; have z0_2 := hS.cell 0 2 rfl rfl; have z0_3 := hS.cell 0 3 rfl rfl; have z0_4 := hS.cell 0 4 rfl rfl; have z0_5 := hS.cell 0 5 rfl rfl; have z0_6 := hS.cell 0 6 rfl rfl; have z0_7 := hS.cell 0 7 rfl rfl; have z0_8 := hS.cell 0 8 rfl rfl; have z0_9 := hS.cell 0 9 rfl rfl; have z0_10 := hS.cell 0 10 rfl rfl; have z1_0 := hS.cell 1 0 rfl rfl; have z1_1 := hS.cell 1 1 rfl rfl; have z1_2 := hS.cell 1 2 rfl rfl; have z1_3 := hS.cell 1 3 rfl rfl; have z1_4 := hS.cell 1 4 rfl rfl; have z1_5 := hS.cell 1 5 rfl rfl; have z1_6 := hS.cell 1 6 rfl rfl; have z1_7 := hS.cell 1 7 rfl rfl; have z1_8 := hS.cell 1 8 rfl rfl; have z1_9 := hS.cell 1 9 rfl rfl; have z1_10 := hS.cell 1 10 rfl rfl; have z2_0 := hS.cell 2 0 rfl rfl; have z2_1 := hS.cell 2 1 rfl rfl; have z2_2 := hS.cell 2 2 rfl rfl; have z2_3 := hS.cell 2 3 rfl rfl; have z2_4 := hS.cell 2 4 rfl rfl; have z2_5 := hS.cell 2 5 rfl rfl; have z2_6 := hS.cell 2 6 rfl rfl; have z2_7 := hS.cell 2 7 rfl rfl; have z2_8 := hS.cell 2 8 rfl rfl; have z2_9 := hS.cell 2 9 rfl rfl; have z2_10 := hS.cell 2 10 rfl rfl; have z3_0 := hS.cell 3 0 rfl rfl; have z3_1 := hS.cell 3 1 rfl rfl; have z3_2 := hS.cell 3 2 rfl rfl; have z3_3 := hS.cell 3 3 rfl rfl; have z3_4 := hS.cell 3 4 rfl rfl; have z3_5 := hS.cell 3 5 rfl rfl; have z3_6 := hS.cell 3 6 rfl rfl; have z3_7 := hS.cell 3 7 rfl rfl; have z3_8 := hS.cell 3 8 rfl rfl; have z3_9 := hS.cell 3 9 rfl rfl; have z3_10 := hS.cell 3 10 rfl rfl
            have HS8 := Lib.hid (And.intro hS hG)
            clear hS HU hG
            go_wp2_with fail
            refine (merge_any c1 c2 HS8.out.2.2.2 HS8.out.2.2.1 _).mono ?_
            rintro e w9 ⟨r, er, hr, rfl, hb9⟩
            rw [HS8.out.2.1] at hr
            injection hr with h1 h2
            subst h1 h2
            clear z0_0 z0_1 z0_2 z0_3 z0_4 z0_5 z0_6 z0_7 z0_8 z0_9 z0_10 z1_0 z1_1 z1_2 z1_3 z1_4 z1_5 z1_6 z1_7 z1_8 z1_9 z1_10 z2_0 z2_1 z2_2 z2_3 z2_4 z2_5 z2_6 z2_7 z2_8 z2_9 z2_10 z3_0 z3_1 z3_2 z3_3 z3_4 z3_5 z3_6 z3_7 z3_8 z3_9 z3_10
            obtain ⟨u, hu⟩ : ∃ u, u = w9.heap.size := ⟨_, rfl⟩
            have o3 := (HS8.out.1.call hb9).alloc hu 29 #[.int .i64 a.n, .int .i64 (hiOf a.s), .int .u64 (loOf a.s), .int .i64 a.lo, .int .i64 a.hi, .int .i64 a.f.t, .int .i64 a.f.v, .int .i64 a.f.s, .int .i64 a.l.t, .int .i64 a.l.v, .int .i64 a.l.s]
            have HU := Lib.hid (And.intro hu o3)
            clear hu o3 hb9 HS8
            go_upto_region 14 with (fail)
            rw [← HU.out.1]
            refine wp_gen (Own w [(x, 29, #[.int .i64 a.n, .int .i64 (hiOf a.s), .int .u64 (loOf a.s), .int .i64 a.lo, .int .i64 a.hi, .int .i64 a.f.t, .int .i64 a.f.v, .int .i64 a.f.s, .int .i64 a.l.t, .int .i64 a.l.v, .int .i64 a.l.s]), (y, 29, #[.int .i64 a.n, .int .i64 (hiOf a.s), .int .u64 (loOf a.s), .int .i64 a.lo, .int .i64 a.hi, .int .i64 a.f.t, .int .i64 a.f.v, .int .i64 a.f.s, .int .i64 a.l.t, .int .i64 a.l.v, .int .i64 a.l.s]), (z, 29, #[.int .i64 c2.n, .int .i64 (hiOf c2.s), .int .u64 (loOf c2.s), .int .i64 c2.lo, .int .i64 c2.hi, .int .i64 c2.f.t, .int .i64 c2.f.v, .int .i64 c2.f.s, .int .i64 c2.l.t, .int .i64 c2.l.v, .int .i64 c2.l.s]), (v, 29, #[.int .i64 c1.n, .int .i64 (hiOf c1.s), .int .u64 (loOf c1.s), .int .i64 c1.lo, .int .i64 c1.hi, .int .i64 c1.f.t, .int .i64 c1.f.v, .int .i64 c1.f.s, .int .i64 c1.l.t, .int .i64 c1.l.v, .int .i64 c1.l.s]), (u, 29, #[.int .i64 a.n, .int .i64 (hiOf a.s), .int .u64 (loOf a.s), .int .i64 a.lo, .int .i64 a.hi, .int .i64 a.f.t, .int .i64 a.f.v, .int .i64 a.f.s, .int .i64 a.l.t, .int .i64 a.l.v, .int .i64 a.l.s])]) HU.out.2 ?_
            intro w10 hS
            clear HU
            have z0_0 := hS.cell 0 0 rfl rfl; have z0_1 := hS.cell 0 1 rfl rfl; have z0_2 := hS.cell 0 2 rfl rfl; have z0_3 := hS.cell 0 3 rfl rfl; have z0_4 := hS.cell 0 4 rfl rfl; have z0_5 := hS.cell 0 5 rfl rfl; have z0_6 := hS.cell 0 6 rfl rfl; have z0_7 := hS.cell 0 7 rfl rfl; have z0_8 := hS.cell 0 8 rfl rfl; have z0_9 := hS.cell 0 9 rfl rfl; have z0_10 := hS.cell 0 10 rfl rfl; have z1_0 := hS.cell 1 0 rfl rfl; have z1_1 := hS.cell 1 1 rfl rfl; have z1_2 := hS.cell 1 2 rfl rfl; have z1_3 := hS.cell 1 3 rfl rfl; have z1_4 := hS.cell 1 4 rfl rfl; have z1_5 := hS.cell 1 5 rfl rfl; have z1_6 := hS.cell 1 6 rfl rfl; have z1_7 := hS.cell 1 7 rfl rfl; have z1_8 := hS.cell 1 8 rfl rfl; have z1_9 := hS.cell 1 9 rfl rfl; have z1_10 := hS.cell 1 10 rfl rfl; have z2_0 := hS.cell 2 0 rfl rfl; have z2_1 := hS.cell 2 1 rfl rfl; have z2_2 := hS.cell 2 2 rfl rfl; have z2_3 := hS.cell 2 3 rfl rfl; have z2_4 := hS.cell 2 4 rfl rfl; have z2_5 := hS.cell 2 5 rfl rfl; have z2_6 := hS.cell 2 6 rfl rfl; have z2_7 := hS.cell 2 7 rfl rfl; have z2_8 := hS.cell 2 8 rfl rfl; have z2_9 := hS.cell 2 9 rfl rfl; have z2_10 := hS.cell 2 10 rfl rfl; have z3_0 := hS.cell 3 0 rfl rfl; have z3_1 := hS.cell 3 1 rfl rfl; have z3_2 := hS.cell 3 2 rfl rfl; have z3_3 := hS.cell 3 3 rfl rfl; have z3_4 := hS.cell 3 4 rfl rfl; have z3_5 := hS.cell 3 5 rfl rfl; have z3_6 := hS.cell 3 6 rfl rfl; have z3_7 := hS.cell 3 7 rfl rfl; have z3_8 := hS.cell 3 8 rfl rfl; have z3_9 := hS.cell 3 9 rfl rfl; have z3_10 := hS.cell 3 10 rfl rfl; have z4_0 := hS.cell 4 0 rfl rfl; have z4_1 := hS.cell 4 1 rfl rfl; have z4_2 := hS.cell 4 2 rfl rfl; have z4_3 := hS.cell 4 3 rfl rfl; have z4_4 := hS.cell 4 4 rfl rfl; have z4_5 := hS.cell 4 5 rfl rfl; have z4_6 := hS.cell 4 6 rfl rfl; have z4_7 := hS.cell 4 7 rfl rfl; have z4_8 := hS.cell 4 8 rfl rfl; have z4_9 := hS.cell 4 9 rfl rfl; have z4_10 := hS.cell 4 10 rfl rfl
            have HS9 := Lib.hid hS
            have dn := HDN.out
            clear hS
            go_wp2_with fail
            refine (valid_any a HE.out.2.2.2.2.2.1 _).mono ?_
            rintro e w11 ⟨rfl, hb11⟩
            rw [HE.out.2.2.2.2.1]
            clear z0_0 z0_1 z0_2 z0_3 z0_4 z0_5 z0_6 z0_7 z0_8 z0_9 z0_10 z1_0 z1_1 z1_2 z1_3 z1_4 z1_5 z1_6 z1_7 z1_8 z1_9 z1_10 z2_0 z2_1 z2_2 z2_3 z2_4 z2_5 z2_6 z2_7 z2_8 z2_9 z2_10 z3_0 z3_1 z3_2 z3_3 z3_4 z3_5 z3_6 z3_7 z3_8 z3_9 z3_10 z4_0 z4_1 z4_2 z4_3 z4_4 z4_5 z4_6 z4_7 z4_8 z4_9 z4_10 dn
            go_wp2_with fail
            go_ret
            exact ⟨rfl, (HS9.out.call hb11).bel⟩
          | some ad =>
            go_wp2_with fail
            refine (all_any _ _ _ g _ _ ((HF.out.2.2.take hmk).below HS.out.1.bel) HF.out.2.1 (by omega)).mono ?_
            rintro e w6 ⟨rfl, hb6⟩
            rw [HC.out.1 _ rfl]
            obtain ⟨z, hz⟩ : ∃ z, z = w6.heap.size := ⟨_, rfl⟩
            have o1 := (HS.out.1.call hb6).alloc hz 29 #[.int .i64 c2.n, .int .i64 (hiOf c2.s), .int .u64 (loOf c2.s), .int .i64 c2.lo, .int .i64 c2.hi, .int .i64 c2.f.t, .int .i64 c2.f.v, .int .i64 c2.f.s, .int .i64 c2.l.t, .int .i64 c2.l.v, .int .i64 c2.l.s]
            have HZ := Lib.hid (And.intro hz o1)
            clear hz o1 hb6
            go_wp2_with fail
            refine (all_any _ _ _ (fun j => g (0 + j)) (fun _ => True) _ (SlP.nil _ _ _ _) (fun j => HF.out.2.1 _) (by omega)).mono ?_
            rintro e w7 ⟨rfl, hb7⟩
            obtain ⟨v, hv⟩ : ∃ v, v = w7.heap.size := ⟨_, rfl⟩
            rw [HC.out.2 _ (by omega)]
            have o2 := (HZ.out.2.call hb7).alloc hv 29 #[.int .i64 c1.n, .int .i64 (hiOf c1.s), .int .u64 (loOf c1.s), .int .i64 c1.lo, .int .i64 c1.hi, .int .i64 c1.f.t, .int .i64 c1.f.v, .int .i64 c1.f.s, .int .i64 c1.l.t, .int .i64 c1.l.v, .int .i64 c1.l.s]
            have HU := Lib.hid (And.intro hv o2)
            clear hv o2 hb7
            go_upto_region 13 with (fail)
            rw [← HZ.out.1, ← HU.out.1]
            have hG := HG.out
            refine wp_gen (Own w [(x, 29, #[.int .i64 a.n, .int .i64 (hiOf a.s), .int .u64 (loOf a.s), .int .i64 a.lo, .int .i64 a.hi, .int .i64 a.f.t, .int .i64 a.f.v, .int .i64 a.f.s, .int .i64 a.l.t, .int .i64 a.l.v, .int .i64 a.l.s]), (y, 29, #[.int .i64 a.n, .int .i64 (hiOf a.s), .int .u64 (loOf a.s), .int .i64 a.lo, .int .i64 a.hi, .int .i64 a.f.t, .int .i64 a.f.v, .int .i64 a.f.s, .int .i64 a.l.t, .int .i64 a.l.v, .int .i64 a.l.s]), (z, 29, #[.int .i64 c2.n, .int .i64 (hiOf c2.s), .int .u64 (loOf c2.s), .int .i64 c2.lo, .int .i64 c2.hi, .int .i64 c2.f.t, .int .i64 c2.f.v, .int .i64 c2.f.s, .int .i64 c2.l.t, .int .i64 c2.l.v, .int .i64 c2.l.s]), (v, 29, #[.int .i64 c1.n, .int .i64 (hiOf c1.s), .int .u64 (loOf c1.s), .int .i64 c1.lo, .int .i64 c1.hi, .int .i64 c1.f.t, .int .i64 c1.f.v, .int .i64 c1.f.s, .int .i64 c1.l.t, .int .i64 c1.l.v, .int .i64 c1.l.s])]) HU.out.2 ?_
            intro w8 hS
            have z0_0 := hS.cell 0 0 rfl rfl; have z0_1 := hS.cell 0 1 rfl rfl; have z0_2 := hS.cell 0 2 rfl rfl; have z0_3 := hS.cell 0 3 rfl rfl; have z0_4 := hS.cell 0 4 rfl rfl; have z0_5 := hS.cell 0 5 rfl rfl; have z0_6 := hS.cell 0 6 rfl rfl; have z0_7 := hS.cell 0 7 rfl rfl; have z0_8 := hS.cell 0 8 rfl rfl; have z0_9 := hS.cell 0 9 rfl rfl; have z0_10 := hS.cell 0 10 rfl rfl; have z1_0 := hS.cell 1 0 rfl rfl; have z1_1 := hS.cell 1 1 rfl rfl; have z1_2 := hS.cell 1 2 rfl rfl; have z1_3 := hS.cell 1 3 rfl rfl; have z1_4 := hS.cell 1 4 rfl rfl; have z1_5 := hS.cell 1 5 rfl rfl; have z1_6 := hS.cell 1 6 rfl rfl; have z1_7 := hS.cell 1 7 rfl rfl; have z1_8 := hS.cell 1 8 rfl rfl; have z1_9 := hS.cell 1 9 rfl rfl; have z1_10 := hS.cell 1 10 rfl rfl; have z2_0 := hS.cell 2 0 rfl rfl; have z2_1 := hS.cell 2 1 rfl rfl; have z2_2 := hS.cell 2 2 rfl rfl; have z2_3 := hS.cell 2 3 rfl rfl; have z2_4 := hS.cell 2 4 rfl rfl; have z2_5 := hS.cell 2 5 rfl rfl; have z2_6 := hS.cell 2 6 rfl rfl; have z2_7 := hS.cell 2 7 rfl rfl; have z2_8 := hS.cell 2 8 rfl rfl; have z2_9 := hS.cell 2 9 rfl rfl; have z2_10 := hS.cell 2 10 rfl rfl; have z3_0 := hS.cell 3 0 rfl rfl; have z3_1 := hS.cell 3 1 rfl rfl; have z3_2 := hS.cell 3 2 rfl rfl; have z3_3 := hS.cell 3 3 rfl rfl; have z3_4 := hS.cell 3 4 rfl rfl; have z3_5 := hS.cell 3 5 rfl rfl; have z3_6 := hS.cell 3 6 rfl rfl; have z3_7 := hS.cell 3 7 rfl rfl; have z3_8 := hS.cell 3 8 rfl rfl; have z3_9 := hS.cell 3 9 rfl rfl; have z3_10 := hS.cell 3 10 rfl rfl
            have HS8 := Lib.hid (And.intro hS hG)
            clear hS HU hG
            go_wp2_with fail
            refine (merge_any c1 c2 HS8.out.2.2.2 HS8.out.2.2.1 _).mono ?_
            rintro e w9 ⟨r, er, hr, rfl, hb9⟩
            rw [HS8.out.2.1] at hr
            injection hr with h1 h2
            subst h1 h2
            clear z0_0 z0_1 z0_2 z0_3 z0_4 z0_5 z0_6 z0_7 z0_8 z0_9 z0_10 z1_0 z1_1 z1_2 z1_3 z1_4 z1_5 z1_6 z1_7 z1_8 z1_9 z1_10 z2_0 z2_1 z2_2 z2_3 z2_4 z2_5 z2_6 z2_7 z2_8 z2_9 z2_10 z3_0 z3_1 z3_2 z3_3 z3_4 z3_5 z3_6 z3_7 z3_8 z3_9 z3_10
            obtain ⟨u, hu⟩ : ∃ u, u = w9.heap.size := ⟨_, rfl⟩
            have o3 := (HS8.out.1.call hb9).alloc hu 29 #[.int .i64 a.n, .int .i64 (hiOf a.s), .int .u64 (loOf a.s), .int .i64 a.lo, .int .i64 a.hi, .int .i64 a.f.t, .int .i64 a.f.v, .int .i64 a.f.s, .int .i64 a.l.t, .int .i64 a.l.v, .int .i64 a.l.s]
            have HU := Lib.hid (And.intro hu o3)
            clear hu o3 hb9 HS8
            go_upto_region 14 with (fail)
            rw [← HU.out.1]
            refine wp_gen (Own w [(x, 29, #[.int .i64 a.n, .int .i64 (hiOf a.s), .int .u64 (loOf a.s), .int .i64 a.lo, .int .i64 a.hi, .int .i64 a.f.t, .int .i64 a.f.v, .int .i64 a.f.s, .int .i64 a.l.t, .int .i64 a.l.v, .int .i64 a.l.s]), (y, 29, #[.int .i64 a.n, .int .i64 (hiOf a.s), .int .u64 (loOf a.s), .int .i64 a.lo, .int .i64 a.hi, .int .i64 a.f.t, .int .i64 a.f.v, .int .i64 a.f.s, .int .i64 a.l.t, .int .i64 a.l.v, .int .i64 a.l.s]), (z, 29, #[.int .i64 c2.n, .int .i64 (hiOf c2.s), .int .u64 (loOf c2.s), .int .i64 c2.lo, .int .i64 c2.hi, .int .i64 c2.f.t, .int .i64 c2.f.v, .int .i64 c2.f.s, .int .i64 c2.l.t, .int .i64 c2.l.v, .int .i64 c2.l.s]), (v, 29, #[.int .i64 c1.n, .int .i64 (hiOf c1.s), .int .u64 (loOf c1.s), .int .i64 c1.lo, .int .i64 c1.hi, .int .i64 c1.f.t, .int .i64 c1.f.v, .int .i64 c1.f.s, .int .i64 c1.l.t, .int .i64 c1.l.v, .int .i64 c1.l.s]), (u, 29, #[.int .i64 a.n, .int .i64 (hiOf a.s), .int .u64 (loOf a.s), .int .i64 a.lo, .int .i64 a.hi, .int .i64 a.f.t, .int .i64 a.f.v, .int .i64 a.f.s, .int .i64 a.l.t, .int .i64 a.l.v, .int .i64 a.l.s])]) HU.out.2 ?_
            intro w10 hS
            clear HU
            have z0_0 := hS.cell 0 0 rfl rfl; have z0_1 := hS.cell 0 1 rfl rfl; have z0_2 := hS.cell 0 2 rfl rfl; have z0_3 := hS.cell 0 3 rfl rfl; have z0_4 := hS.cell 0 4 rfl rfl; have z0_5 := hS.cell 0 5 rfl rfl; have z0_6 := hS.cell 0 6 rfl rfl; have z0_7 := hS.cell 0 7 rfl rfl; have z0_8 := hS.cell 0 8 rfl rfl; have z0_9 := hS.cell 0 9 rfl rfl; have z0_10 := hS.cell 0 10 rfl rfl; have z1_0 := hS.cell 1 0 rfl rfl; have z1_1 := hS.cell 1 1 rfl rfl; have z1_2 := hS.cell 1 2 rfl rfl; have z1_3 := hS.cell 1 3 rfl rfl; have z1_4 := hS.cell 1 4 rfl rfl; have z1_5 := hS.cell 1 5 rfl rfl; have z1_6 := hS.cell 1 6 rfl rfl; have z1_7 := hS.cell 1 7 rfl rfl; have z1_8 := hS.cell 1 8 rfl rfl; have z1_9 := hS.cell 1 9 rfl rfl; have z1_10 := hS.cell 1 10 rfl rfl; have z2_0 := hS.cell 2 0 rfl rfl; have z2_1 := hS.cell 2 1 rfl rfl; have z2_2 := hS.cell 2 2 rfl rfl; have z2_3 := hS.cell 2 3 rfl rfl; have z2_4 := hS.cell 2 4 rfl rfl; have z2_5 := hS.cell 2 5 rfl rfl; have z2_6 := hS.cell 2 6 rfl rfl; have z2_7 := hS.cell 2 7 rfl rfl; have z2_8 := hS.cell 2 8 rfl rfl; have z2_9 := hS.cell 2 9 rfl rfl; have z2_10 := hS.cell 2 10 rfl rfl; have z3_0 := hS.cell 3 0 rfl rfl; have z3_1 := hS.cell 3 1 rfl rfl; have z3_2 := hS.cell 3 2 rfl rfl; have z3_3 := hS.cell 3 3 rfl rfl; have z3_4 := hS.cell 3 4 rfl rfl; have z3_5 := hS.cell 3 5 rfl rfl; have z3_6 := hS.cell 3 6 rfl rfl; have z3_7 := hS.cell 3 7 rfl rfl; have z3_8 := hS.cell 3 8 rfl rfl; have z3_9 := hS.cell 3 9 rfl rfl; have z3_10 := hS.cell 3 10 rfl rfl; have z4_0 := hS.cell 4 0 rfl rfl; have z4_1 := hS.cell 4 1 rfl rfl; have z4_2 := hS.cell 4 2 rfl rfl; have z4_3 := hS.cell 4 3 rfl rfl; have z4_4 := hS.cell 4 4 rfl rfl; have z4_5 := hS.cell 4 5 rfl rfl; have z4_6 := hS.cell 4 6 rfl rfl; have z4_7 := hS.cell 4 7 rfl rfl; have z4_8 := hS.cell 4 8 rfl rfl; have z4_9 := hS.cell 4 9 rfl rfl; have z4_10 := hS.cell 4 10 rfl rfl
            have HS9 := Lib.hid hS
            have dn := HDN.out
            clear hS
            go_wp2_with fail
            refine (valid_any a HE.out.2.2.2.2.2.1 _).mono ?_
            rintro e w11 ⟨rfl, hb11⟩
            rw [HE.out.2.2.2.2.1]
            clear z0_0 z0_1 z0_2 z0_3 z0_4 z0_5 z0_6 z0_7 z0_8 z0_9 z0_10 z1_0 z1_1 z1_2 z1_3 z1_4 z1_5 z1_6 z1_7 z1_8 z1_9 z1_10 z2_0 z2_1 z2_2 z2_3 z2_4 z2_5 z2_6 z2_7 z2_8 z2_9 z2_10 z3_0 z3_1 z3_2 z3_3 z3_4 z3_5 z3_6 z3_7 z3_8 z3_9 z3_10 z4_0 z4_1 z4_2 z4_3 z4_4 z4_5 z4_6 z4_7 z4_8 z4_9 z4_10 dn
            go_wp2_with fail
            go_ret
            exact ⟨rfl, (HS9.out.call hb11).bel⟩
        · obtain ⟨b, off, rfl, -, -⟩ := HF.out.2.2 h0
          have HDN : Hid ((a.n == (k : Int)) = true) := Lib.hid (by rw [HE.out.2.2.2.2.2.2]; simp)
          by_cases hmc : m = cap0
          · subst hmc
            obtain rfl : m = k := by omega
            go_wp2_with fail
            refine (all_any _ _ _ g _ _ ((HF.out.2.2.take hmk).below HS.out.1.bel) HF.out.2.1 (by omega)).mono ?_
            rintro e w6 ⟨rfl, hb6⟩
            rw [HC.out.1 _ rfl]
            obtain ⟨z, hz⟩ : ∃ z, z = w6.heap.size := ⟨_, rfl⟩
            have o1 := (HS.out.1.call hb6).alloc hz 29 #[.int .i64 c2.n, .int .i64 (hiOf c2.s), .int .u64 (loOf c2.s), .int .i64 c2.lo, .int .i64 c2.hi, .int .i64 c2.f.t, .int .i64 c2.f.v, .int .i64 c2.f.s, .int .i64 c2.l.t, .int .i64 c2.l.v, .int .i64 c2.l.s]
            have HZ := Lib.hid (And.intro hz o1)
            clear hz o1 hb6
            go_wp2_with fail
            refine (all_any _ _ _ (fun j => g (m + j)) (fun _ => True) _ (SlP.nil _ _ _ _) (fun j => HF.out.2.1 _) (by omega)).mono ?_
            rintro e w7 ⟨rfl, hb7⟩
            obtain ⟨v, hv⟩ : ∃ v, v = w7.heap.size := ⟨_, rfl⟩
            rw [HC.out.2 _ (by omega)]
            have o2 := (HZ.out.2.call hb7).alloc hv 29 #[.int .i64 c1.n, .int .i64 (hiOf c1.s), .int .u64 (loOf c1.s), .int .i64 c1.lo, .int .i64 c1.hi, .int .i64 c1.f.t, .int .i64 c1.f.v, .int .i64 c1.f.s, .int .i64 c1.l.t, .int .i64 c1.l.v, .int .i64 c1.l.s]
            have HU := Lib.hid (And.intro hv o2)
            clear hv o2 hb7
            go_upto_region 13 with (fail)
            rw [← HZ.out.1, ← HU.out.1]
            have hG := HG.out
            refine wp_gen (Own w [(x, 29, #[.int .i64 a.n, .int .i64 (hiOf a.s), .int .u64 (loOf a.s), .int .i64 a.lo, .int .i64 a.hi, .int .i64 a.f.t, .int .i64 a.f.v, .int .i64 a.f.s, .int .i64 a.l.t, .int .i64 a.l.v, .int .i64 a.l.s]), (y, 29, #[.int .i64 a.n, .int .i64 (hiOf a.s), .int .u64 (loOf a.s), .int .i64 a.lo, .int .i64 a.hi, .int .i64 a.f.t, .int .i64 a.f.v, .int .i64 a.f.s, .int .i64 a.l.t, .int .i64 a.l.v, .int .i64 a.l.s]), (z, 29, #[.int .i64 c2.n, .int .i64 (hiOf c2.s), .int .u64 (loOf c2.s), .int .i64 c2.lo, .int .i64 c2.hi, .int .i64 c2.f.t, .int .i64 c2.f.v, .int .i64 c2.f.s, .int .i64 c2.l.t, .int .i64 c2.l.v, .int .i64 c2.l.s]), (v, 29, #[.int .i64 c1.n, .int .i64 (hiOf c1.s), .int .u64 (loOf c1.s), .int .i64 c1.lo, .int .i64 c1.hi, .int .i64 c1.f.t, .int .i64 c1.f.v, .int .i64 c1.f.s, .int .i64 c1.l.t, .int .i64 c1.l.v, .int .i64 c1.l.s])]) HU.out.2 ?_
            intro w8 hS
            have z0_0 := hS.cell 0 0 rfl rfl; have z0_1 := hS.cell 0 1 rfl rfl; have z0_2 := hS.cell 0 2 rfl rfl; have z0_3 := hS.cell 0 3 rfl rfl; have z0_4 := hS.cell 0 4 rfl rfl; have z0_5 := hS.cell 0 5 rfl rfl; have z0_6 := hS.cell 0 6 rfl rfl; have z0_7 := hS.cell 0 7 rfl rfl; have z0_8 := hS.cell 0 8 rfl rfl; have z0_9 := hS.cell 0 9 rfl rfl; have z0_10 := hS.cell 0 10 rfl rfl; have z1_0 := hS.cell 1 0 rfl rfl; have z1_1 := hS.cell 1 1 rfl rfl; have z1_2 := hS.cell 1 2 rfl rfl; have z1_3 := hS.cell 1 3 rfl rfl; have z1_4 := hS.cell 1 4 rfl rfl; have z1_5 := hS.cell 1 5 rfl rfl; have z1_6 := hS.cell 1 6 rfl rfl; have z1_7 := hS.cell 1 7 rfl rfl; have z1_8 := hS.cell 1 8 rfl rfl; have z1_9 := hS.cell 1 9 rfl rfl; have z1_10 := hS.cell 1 10 rfl rfl; have z2_0 := hS.cell 2 0 rfl rfl; have z2_1 := hS.cell 2 1 rfl rfl; have z2_2 := hS.cell 2 2 rfl rfl; have z2_3 := hS.cell 2 3 rfl rfl; have z2_4 := hS.cell 2 4 rfl rfl; have z2_5 := hS.cell 2 5 rfl rfl; have z2_6 := hS.cell 2 6 rfl rfl; have z2_7 := hS.cell 2 7 rfl rfl; have z2_8 := hS.cell 2 8 rfl rfl; have z2_9 := hS.cell 2 9 rfl rfl; have z2_10 := hS.cell 2 10 rfl rfl; have z3_0 := hS.cell 3 0 rfl rfl; have z3_1 := hS.cell 3 1 rfl rfl; have z3_2 := hS.cell 3 2 rfl rfl; have z3_3 := hS.cell 3 3 rfl rfl; have z3_4 := hS.cell 3 4 rfl rfl; have z3_5 := hS.cell 3 5 rfl rfl; have z3_6 := hS.cell 3 6 rfl rfl; have z3_7 := hS.cell 3 7 rfl rfl; have z3_8 := hS.cell 3 8 rfl rfl; have z3_9 := hS.cell 3 9 rfl rfl; have z3_10 := hS.cell 3 10 rfl rfl
            have HS8 := Lib.hid (And.intro hS hG)
            clear hS HU hG
            go_wp2_with fail
            refine (merge_any c1 c2 HS8.out.2.2.2 HS8.out.2.2.1 _).mono ?_
            rintro e w9 ⟨r, er, hr, rfl, hb9⟩
            rw [HS8.out.2.1] at hr
            injection hr with h1 h2
            subst h1 h2
            clear z0_0 z0_1 z0_2 z0_3 z0_4 z0_5 z0_6 z0_7 z0_8 z0_9 z0_10 z1_0 z1_1 z1_2 z1_3 z1_4 z1_5 z1_6 z1_7 z1_8 z1_9 z1_10 z2_0 z2_1 z2_2 z2_3 z2_4 z2_5 z2_6 z2_7 z2_8 z2_9 z2_10 z3_0 z3_1 z3_2 z3_3 z3_4 z3_5 z3_6 z3_7 z3_8 z3_9 z3_10
            obtain ⟨u, hu⟩ : ∃ u, u = w9.heap.size := ⟨_, rfl⟩
            have o3 := (HS8.out.1.call hb9).alloc hu 29 #[.int .i64 a.n, .int .i64 (hiOf a.s), .int .u64 (loOf a.s), .int .i64 a.lo, .int .i64 a.hi, .int .i64 a.f.t, .int .i64 a.f.v, .int .i64 a.f.s, .int .i64 a.l.t, .int .i64 a.l.v, .int .i64 a.l.s]
            have HU := Lib.hid (And.intro hu o3)
            clear hu o3 hb9 HS8
            go_upto_region 14 with (fail)
            rw [← HU.out.1]
            refine wp_gen (Own w [(x, 29, #[.int .i64 a.n, .int .i64 (hiOf a.s), .int .u64 (loOf a.s), .int .i64 a.lo, .int .i64 a.hi, .int .i64 a.f.t, .int .i64 a.f.v, .int .i64 a.f.s, .int .i64 a.l.t, .int .i64 a.l.v, .int .i64 a.l.s]), (y, 29, #[.int .i64 a.n, .int .i64 (hiOf a.s), .int .u64 (loOf a.s), .int .i64 a.lo, .int .i64 a.hi, .int .i64 a.f.t, .int .i64 a.f.v, .int .i64 a.f.s, .int .i64 a.l.t, .int .i64 a.l.v, .int .i64 a.l.s]), (z, 29, #[.int .i64 c2.n, .int .i64 (hiOf c2.s), .int .u64 (loOf c2.s), .int .i64 c2.lo, .int .i64 c2.hi, .int .i64 c2.f.t, .int .i64 c2.f.v, .int .i64 c2.f.s, .int .i64 c2.l.t, .int .i64 c2.l.v, .int .i64 c2.l.s]), (v, 29, #[.int .i64 c1.n, .int .i64 (hiOf c1.s), .int .u64 (loOf c1.s), .int .i64 c1.lo, .int .i64 c1.hi, .int .i64 c1.f.t, .int .i64 c1.f.v, .int .i64 c1.f.s, .int .i64 c1.l.t, .int .i64 c1.l.v, .int .i64 c1.l.s]), (u, 29, #[.int .i64 a.n, .int .i64 (hiOf a.s), .int .u64 (loOf a.s), .int .i64 a.lo, .int .i64 a.hi, .int .i64 a.f.t, .int .i64 a.f.v, .int .i64 a.f.s, .int .i64 a.l.t, .int .i64 a.l.v, .int .i64 a.l.s])]) HU.out.2 ?_
            intro w10 hS
            clear HU
            have z0_0 := hS.cell 0 0 rfl rfl; have z0_1 := hS.cell 0 1 rfl rfl; have z0_2 := hS.cell 0 2 rfl rfl; have z0_3 := hS.cell 0 3 rfl rfl; have z0_4 := hS.cell 0 4 rfl rfl; have z0_5 := hS.cell 0 5 rfl rfl; have z0_6 := hS.cell 0 6 rfl rfl; have z0_7 := hS.cell 0 7 rfl rfl; have z0_8 := hS.cell 0 8 rfl rfl; have z0_9 := hS.cell 0 9 rfl rfl; have z0_10 := hS.cell 0 10 rfl rfl; have z1_0 := hS.cell 1 0 rfl rfl; have z1_1 := hS.cell 1 1 rfl rfl; have z1_2 := hS.cell 1 2 rfl rfl; have z1_3 := hS.cell 1 3 rfl rfl; have z1_4 := hS.cell 1 4 rfl rfl; have z1_5 := hS.cell 1 5 rfl rfl; have z1_6 := hS.cell 1 6 rfl rfl; have z1_7 := hS.cell 1 7 rfl rfl; have z1_8 := hS.cell 1 8 rfl rfl; have z1_9 := hS.cell 1 9 rfl rfl; have z1_10 := hS.cell 1 10 rfl rfl; have z2_0 := hS.cell 2 0 rfl rfl; have z2_1 := hS.cell 2 1 rfl rfl; have z2_2 := hS.cell 2 2 rfl rfl; have z2_3 := hS.cell 2 3 rfl rfl; have z2_4 := hS.cell 2 4 rfl rfl; have z2_5 := hS.cell 2 5 rfl rfl; have z2_6 := hS.cell 2 6 rfl rfl; have z2_7 := hS.cell 2 7 rfl rfl; have z2_8 := hS.cell 2 8 rfl rfl; have z2_9 := hS.cell 2 9 rfl rfl; have z2_10 := hS.cell 2 10 rfl rfl; have z3_0 := hS.cell 3 0 rfl rfl; have z3_1 := hS.cell 3 1 rfl rfl; have z3_2 := hS.cell 3 2 rfl rfl; have z3_3 := hS.cell 3 3 rfl rfl; have z3_4 := hS.cell 3 4 rfl rfl; have z3_5 := hS.cell 3 5 rfl rfl; have z3_6 := hS.cell 3 6 rfl rfl; have z3_7 := hS.cell 3 7 rfl rfl; have z3_8 := hS.cell 3 8 rfl rfl; have z3_9 := hS.cell 3 9 rfl rfl; have z3_10 := hS.cell 3 10 rfl rfl; have z4_0 := hS.cell 4 0 rfl rfl; have z4_1 := hS.cell 4 1 rfl rfl; have z4_2 := hS.cell 4 2 rfl rfl; have z4_3 := hS.cell 4 3 rfl rfl; have z4_4 := hS.cell 4 4 rfl rfl; have z4_5 := hS.cell 4 5 rfl rfl; have z4_6 := hS.cell 4 6 rfl rfl; have z4_7 := hS.cell 4 7 rfl rfl; have z4_8 := hS.cell 4 8 rfl rfl; have z4_9 := hS.cell 4 9 rfl rfl; have z4_10 := hS.cell 4 10 rfl rfl
            have HS9 := Lib.hid hS
            have dn := HDN.out
            clear hS
            go_wp2_with fail
            refine (valid_any a HE.out.2.2.2.2.2.1 _).mono ?_
            rintro e w11 ⟨rfl, hb11⟩
            rw [HE.out.2.2.2.2.1]
            clear z0_0 z0_1 z0_2 z0_3 z0_4 z0_5 z0_6 z0_7 z0_8 z0_9 z0_10 z1_0 z1_1 z1_2 z1_3 z1_4 z1_5 z1_6 z1_7 z1_8 z1_9 z1_10 z2_0 z2_1 z2_2 z2_3 z2_4 z2_5 z2_6 z2_7 z2_8 z2_9 z2_10 z3_0 z3_1 z3_2 z3_3 z3_4 z3_5 z3_6 z3_7 z3_8 z3_9 z3_10 z4_0 z4_1 z4_2 z4_3 z4_4 z4_5 z4_6 z4_7 z4_8 z4_9 z4_10 dn
            go_wp2_with fail
            go_ret
            exact ⟨rfl, (HS9.out.call hb11).bel⟩
          · go_wp2_with fail
            refine (all_any _ _ _ g _ _ ((HF.out.2.2.take hmk).below HS.out.1.bel) HF.out.2.1 (by omega)).mono ?_
            rintro e w6 ⟨rfl, hb6⟩
            rw [HC.out.1 _ rfl]
            obtain ⟨z, hz⟩ : ∃ z, z = w6.heap.size := ⟨_, rfl⟩
            have o1 := (HS.out.1.call hb6).alloc hz 29 #[.int .i64 c2.n, .int .i64 (hiOf c2.s), .int .u64 (loOf c2.s), .int .i64 c2.lo, .int .i64 c2.hi, .int .i64 c2.f.t, .int .i64 c2.f.v, .int .i64 c2.f.s, .int .i64 c2.l.t, .int .i64 c2.l.v, .int .i64 c2.l.s]
            have HZ := Lib.hid (And.intro hz o1)
            clear hz o1 hb6
            go_wp2_with fail
            have hd : SlP w (fun x => x < w.heap.size) (some ⟨b, off + m * 3, none⟩) (k - m) (fun j => g (m + j)) := SlP.drop (n := k - m) (by rw [show m + (k - m) = k by omega]; exact HF.out.2.2)
            refine (all_any _ _ _ (fun j => g (m + j)) _ _ (hd.below HZ.out.2.bel) (fun j => HF.out.2.1 _) (by omega)).mono ?_
            rintro e w7 ⟨rfl, hb7⟩
            obtain ⟨v, hv⟩ : ∃ v, v = w7.heap.size := ⟨_, rfl⟩
            rw [HC.out.2 _ (by omega)]
            have o2 := (HZ.out.2.call hb7).alloc hv 29 #[.int .i64 c1.n, .int .i64 (hiOf c1.s), .int .u64 (loOf c1.s), .int .i64 c1.lo, .int .i64 c1.hi, .int .i64 c1.f.t, .int .i64 c1.f.v, .int .i64 c1.f.s, .int .i64 c1.l.t, .int .i64 c1.l.v, .int .i64 c1.l.s]
            have HU := Lib.hid (And.intro hv o2)
            clear hv o2 hb7
            go_upto_region 13 with (fail)
            rw [← HZ.out.1, ← HU.out.1]
            have hG := HG.out
            refine wp_gen (Own w [(x, 29, #[.int .i64 a.n, .int .i64 (hiOf a.s), .int .u64 (loOf a.s), .int .i64 a.lo, .int .i64 a.hi, .int .i64 a.f.t, .int .i64 a.f.v, .int .i64 a.f.s, .int .i64 a.l.t, .int .i64 a.l.v, .int .i64 a.l.s]), (y, 29, #[.int .i64 a.n, .int .i64 (hiOf a.s), .int .u64 (loOf a.s), .int .i64 a.lo, .int .i64 a.hi, .int .i64 a.f.t, .int .i64 a.f.v, .int .i64 a.f.s, .int .i64 a.l.t, .int .i64 a.l.v, .int .i64 a.l.s]), (z, 29, #[.int .i64 c2.n, .int .i64 (hiOf c2.s), .int .u64 (loOf c2.s), .int .i64 c2.lo, .int .i64 c2.hi, .int .i64 c2.f.t, .int .i64 c2.f.v, .int .i64 c2.f.s, .int .i64 c2.l.t, .int .i64 c2.l.v, .int .i64 c2.l.s]), (v, 29, #[.int .i64 c1.n, .int .i64 (hiOf c1.s), .int .u64 (loOf c1.s), .int .i64 c1.lo, .int .i64 c1.hi, .int .i64 c1.f.t, .int .i64 c1.f.v, .int .i64 c1.f.s, .int .i64 c1.l.t, .int .i64 c1.l.v, .int .i64 c1.l.s])]) HU.out.2 ?_
            intro w8 hS
            have z0_0 := hS.cell 0 0 rfl rfl; have z0_1 := hS.cell 0 1 rfl rfl; have z0_2 := hS.cell 0 2 rfl rfl; have z0_3 := hS.cell 0 3 rfl rfl; have z0_4 := hS.cell 0 4 rfl rfl; have z0_5 := hS.cell 0 5 rfl rfl; have z0_6 := hS.cell 0 6 rfl rfl; have z0_7 := hS.cell 0 7 rfl rfl; have z0_8 := hS.cell 0 8 rfl rfl; have z0_9 := hS.cell 0 9 rfl rfl; have z0_10 := hS.cell 0 10 rfl rfl; have z1_0 := hS.cell 1 0 rfl rfl; have z1_1 := hS.cell 1 1 rfl rfl; have z1_2 := hS.cell 1 2 rfl rfl; have z1_3 := hS.cell 1 3 rfl rfl; have z1_4 := hS.cell 1 4 rfl rfl; have z1_5 := hS.cell 1 5 rfl rfl; have z1_6 := hS.cell 1 6 rfl rfl; have z1_7 := hS.cell 1 7 rfl rfl; have z1_8 := hS.cell 1 8 rfl rfl; have z1_9 := hS.cell 1 9 rfl rfl; have z1_10 := hS.cell 1 10 rfl rfl; have z2_0 := hS.cell 2 0 rfl rfl; have z2_1 := hS.cell 2 1 rfl rfl; have z2_2 := hS.cell 2 2 rfl rfl; have z2_3 := hS.cell 2 3 rfl rfl; have z2_4 := hS.cell 2 4 rfl rfl; have z2_5 := hS.cell 2 5 rfl rfl; have z2_6 := hS.cell 2 6 rfl rfl; have z2_7 := hS.cell 2 7 rfl rfl; have z2_8 := hS.cell 2 8 rfl rfl; have z2_9 := hS.cell 2 9 rfl rfl; have z2_10 := hS.cell 2 10 rfl rfl; have z3_0 := hS.cell 3 0 rfl rfl; have z3_1 := hS.cell 3 1 rfl rfl; have z3_2 := hS.cell 3 2 rfl rfl; have z3_3 := hS.cell 3 3 rfl rfl; have z3_4 := hS.cell 3 4 rfl rfl; have z3_5 := hS.cell 3 5 rfl rfl; have z3_6 := hS.cell 3 6 rfl rfl; have z3_7 := hS.cell 3 7 rfl rfl; have z3_8 := hS.cell 3 8 rfl rfl; have z3_9 := hS.cell 3 9 rfl rfl; have z3_10 := hS.cell 3 10 rfl rfl
            have HS8 := Lib.hid (And.intro hS hG)
            clear hS HU hG
            go_wp2_with fail
            refine (merge_any c1 c2 HS8.out.2.2.2 HS8.out.2.2.1 _).mono ?_
            rintro e w9 ⟨r, er, hr, rfl, hb9⟩
            rw [HS8.out.2.1] at hr
            injection hr with h1 h2
            subst h1 h2
            clear z0_0 z0_1 z0_2 z0_3 z0_4 z0_5 z0_6 z0_7 z0_8 z0_9 z0_10 z1_0 z1_1 z1_2 z1_3 z1_4 z1_5 z1_6 z1_7 z1_8 z1_9 z1_10 z2_0 z2_1 z2_2 z2_3 z2_4 z2_5 z2_6 z2_7 z2_8 z2_9 z2_10 z3_0 z3_1 z3_2 z3_3 z3_4 z3_5 z3_6 z3_7 z3_8 z3_9 z3_10
            obtain ⟨u, hu⟩ : ∃ u, u = w9.heap.size := ⟨_, rfl⟩
            have o3 := (HS8.out.1.call hb9).alloc hu 29 #[.int .i64 a.n, .int .i64 (hiOf a.s), .int .u64 (loOf a.s), .int .i64 a.lo, .int .i64 a.hi, .int .i64 a.f.t, .int .i64 a.f.v, .int .i64 a.f.s, .int .i64 a.l.t, .int .i64 a.l.v, .int .i64 a.l.s]
            have HU := Lib.hid (And.intro hu o3)
            clear hu o3 hb9 HS8
            go_upto_region 14 with (fail)
            rw [← HU.out.1]
            refine wp_gen (Own w [(x, 29, #[.int .i64 a.n, .int .i64 (hiOf a.s), .int .u64 (loOf a.s), .int .i64 a.lo, .int .i64 a.hi, .int .i64 a.f.t, .int .i64 a.f.v, .int .i64 a.f.s, .int .i64 a.l.t, .int .i64 a.l.v, .int .i64 a.l.s]), (y, 29, #[.int .i64 a.n, .int .i64 (hiOf a.s), .int .u64 (loOf a.s), .int .i64 a.lo, .int .i64 a.hi, .int .i64 a.f.t, .int .i64 a.f.v, .int .i64 a.f.s, .int .i64 a.l.t, .int .i64 a.l.v, .int .i64 a.l.s]), (z, 29, #[.int .i64 c2.n, .int .i64 (hiOf c2.s), .int .u64 (loOf c2.s), .int .i64 c2.lo, .int .i64 c2.hi, .int .i64 c2.f.t, .int .i64 c2.f.v, .int .i64 c2.f.s, .int .i64 c2.l.t, .int .i64 c2.l.v, .int .i64 c2.l.s]), (v, 29, #[.int .i64 c1.n, .int .i64 (hiOf c1.s), .int .u64 (loOf c1.s), .int .i64 c1.lo, .int .i64 c1.hi, .int .i64 c1.f.t, .int .i64 c1.f.v, .int .i64 c1.f.s, .int .i64 c1.l.t, .int .i64 c1.l.v, .int .i64 c1.l.s]), (u, 29, #[.int .i64 a.n, .int .i64 (hiOf a.s), .int .u64 (loOf a.s), .int .i64 a.lo, .int .i64 a.hi, .int .i64 a.f.t, .int .i64 a.f.v, .int .i64 a.f.s, .int .i64 a.l.t, .int .i64 a.l.v, .int .i64 a.l.s])]) HU.out.2 ?_
            intro w10 hS
            clear HU
            have z0_0 := hS.cell 0 0 rfl rfl; have z0_1 := hS.cell 0 1 rfl rfl; have z0_2 := hS.cell 0 2 rfl rfl; have z0_3 := hS.cell 0 3 rfl rfl; have z0_4 := hS.cell 0 4 rfl rfl; have z0_5 := hS.cell 0 5 rfl rfl; have z0_6 := hS.cell 0 6 rfl rfl; have z0_7 := hS.cell 0 7 rfl rfl; have z0_8 := hS.cell 0 8 rfl rfl; have z0_9 := hS.cell 0 9 rfl rfl; have z0_10 := hS.cell 0 10 rfl rfl; have z1_0 := hS.cell 1 0 rfl rfl; have z1_1 := hS.cell 1 1 rfl rfl; have z1_2 := hS.cell 1 2 rfl rfl; have z1_3 := hS.cell 1 3 rfl rfl; have z1_4 := hS.cell 1 4 rfl rfl; have z1_5 := hS.cell 1 5 rfl rfl; have z1_6 := hS.cell 1 6 rfl rfl; have z1_7 := hS.cell 1 7 rfl rfl; have z1_8 := hS.cell 1 8 rfl rfl; have z1_9 := hS.cell 1 9 rfl rfl; have z1_10 := hS.cell 1 10 rfl rfl; have z2_0 := hS.cell 2 0 rfl rfl; have z2_1 := hS.cell 2 1 rfl rfl; have z2_2 := hS.cell 2 2 rfl rfl; have z2_3 := hS.cell 2 3 rfl rfl; have z2_4 := hS.cell 2 4 rfl rfl; have z2_5 := hS.cell 2 5 rfl rfl; have z2_6 := hS.cell 2 6 rfl rfl; have z2_7 := hS.cell 2 7 rfl rfl; have z2_8 := hS.cell 2 8 rfl rfl; have z2_9 := hS.cell 2 9 rfl rfl; have z2_10 := hS.cell 2 10 rfl rfl; have z3_0 := hS.cell 3 0 rfl rfl; have z3_1 := hS.cell 3 1 rfl rfl; have z3_2 := hS.cell 3 2 rfl rfl; have z3_3 := hS.cell 3 3 rfl rfl; have z3_4 := hS.cell 3 4 rfl rfl; have z3_5 := hS.cell 3 5 rfl rfl; have z3_6 := hS.cell 3 6 rfl rfl; have z3_7 := hS.cell 3 7 rfl rfl; have z3_8 := hS.cell 3 8 rfl rfl; have z3_9 := hS.cell 3 9 rfl rfl; have z3_10 := hS.cell 3 10 rfl rfl; have z4_0 := hS.cell 4 0 rfl rfl; have z4_1 := hS.cell 4 1 rfl rfl; have z4_2 := hS.cell 4 2 rfl rfl; have z4_3 := hS.cell 4 3 rfl rfl; have z4_4 := hS.cell 4 4 rfl rfl; have z4_5 := hS.cell 4 5 rfl rfl; have z4_6 := hS.cell 4 6 rfl rfl; have z4_7 := hS.cell 4 7 rfl rfl; have z4_8 := hS.cell 4 8 rfl rfl; have z4_9 := hS.cell 4 9 rfl rfl; have z4_10 := hS.cell 4 10 rfl rfl
            have HS9 := Lib.hid hS
            have dn := HDN.out
            clear hS
            go_wp2_with fail
            refine (valid_any a HE.out.2.2.2.2.2.1 _).mono ?_
            rintro e w11 ⟨rfl, hb11⟩
            rw [HE.out.2.2.2.2.1]
            clear z0_0 z0_1 z0_2 z0_3 z0_4 z0_5 z0_6 z0_7 z0_8 z0_9 z0_10 z1_0 z1_1 z1_2 z1_3 z1_4 z1_5 z1_6 z1_7 z1_8 z1_9 z1_10 z2_0 z2_1 z2_2 z2_3 z2_4 z2_5 z2_6 z2_7 z2_8 z2_9 z2_10 z3_0 z3_1 z3_2 z3_3 z3_4 z3_5 z3_6 z3_7 z3_8 z3_9 z3_10 z4_0 z4_1 z4_2 z4_3 z4_4 z4_5 z4_6 z4_7 z4_8 z4_9 z4_10 dn
            go_wp2_with fail
            go_ret
            exact ⟨rfl, (HS9.out.call hb11).bel⟩
end Go.Proofs.Ythhgnngpaagagaa
