/-
  The contract of tidemillref07.Div. (Printed by mk.py.)
-/
import Derived.Test.YthhgnngpaagagaaLmB
import Derived.Test.YthhgnngpaagagaaLmG
import Derived.Test.YthhgnngpaagagaaLmS
import Derived.Deep.DeepCutAuto
namespace Go.Proofs.Ythhgnngpaagagaa
open Go.RowKit
set_option linter.unusedVariables false
set_option linter.unusedSimpArgs false
/-- The state of the division: bits from m on are done. -/
structure DvSt (w wr : World) (x y : Nat) (A n m : Nat) (fa : Nat → Int) (f : Nat → Int) (r : Nat) : Prop where
  own : Own w [(x, 38, #[.int .i64 (fa 0), .int .i64 (fa 1), .int .i64 (fa 2), .int .i64 (fa 3), .int .i64 (fa 4), .int .i64 (fa 5), .int .i64 (fa 6), .int .i64 (fa 7)]), (x + 1, 38, #[.int .i64 0, .int .i64 0, .int .i64 0, .int .i64 0, .int .i64 0, .int .i64 0, .int .i64 0, .int .i64 0]), (y, 38, #[.int .i64 (f 0), .int .i64 (f 1), .int .i64 (f 2), .int .i64 (f 3), .int .i64 (f 4), .int .i64 (f 5), .int .i64 (f 6), .int .i64 (f 7)])] wr
  f_is : ∀ j, j < 8 → f j = ((ql (A / n) m j : Nat) : Int)
  r_is : r = A / 2 ^ m % n
theorem ql_bd (d m j : Nat) : ql d m j < 65536 := by
  unfold ql
  exact Nat.lt_of_le_of_lt (Nat.div_mul_le_self _ _) (Nat.mod_lt _ (by omega))
def RDivPost (s n : Int) (w : World) (e : Ending) (w' : World) : Prop := e = .returned (.tuple #[.agg #[.int .i64 (lim ((s / n)) 0), .int .i64 (lim ((s / n)) 1), .int .i64 (lim ((s / n)) 2), .int .i64 (lim ((s / n)) 3), .int .i64 (lim ((s / n)) 4), .int .i64 (lim ((s / n)) 5), .int .i64 (lim ((s / n)) 6), .int .i64 (lim ((s / n)) 7)], .int .i64 (s % n)]) ∧ Below w.heap.size w w'
theorem rd_post {s n v : Int} {f : Nat → Int} {w w' : World} (h : lim (s / n) = f) (h' : s % n = v) (hb : Below w.heap.size w w') : RDivPost s n w (.returned (.tuple #[.agg #[.int .i64 (f 0), .int .i64 (f 1), .int .i64 (f 2), .int .i64 (f 3), .int .i64 (f 4), .int .i64 (f 5), .int .i64 (f 6), .int .i64 (f 7)], .int .i64 v])) w' := by
  subst h h'
  exact ⟨rfl, hb⟩
/-- The world under another name, at a function's end. -/
theorem bodyPost_gen1 {P : Program} {f : Func} {post : Ending → World → Prop} {ex : Exit} {a : Act} {w : World} (S : World → Prop) (hS : S w) (h : ∀ w, S w → bodyPost P f post ex a w) : bodyPost P f post ex a w := h w hS
theorem neg_div {A n : Nat} (hn : 0 < n) : (-(A : Int)) / (n : Int) = (if A % n = 0 then -((A / n : Nat) : Int) else -((A / n : Nat) : Int) + -1) ∧ (-(A : Int)) % (n : Int) = (if A % n = 0 then 0 else (n : Int) - ((A % n : Nat) : Int)) := by
  have h1 := Nat.div_add_mod A n
  have h2 := Nat.mod_lt A hn
  generalize A / n = q at h1 ⊢
  generalize A % n = r at h1 h2 ⊢
  have hA : (A : Int) = (n : Int) * (q : Int) + (r : Int) := by rw [← h1]; simp
  by_cases hr : r = 0
  · rw [if_pos hr, if_pos hr]
    have e : -(A : Int) = 0 + (n : Int) * (-(q : Int)) := by rw [hA, hr, Int.mul_neg]; simp
    rw [e]
    constructor
    · rw [Int.add_mul_ediv_left _ _ (by omega)]; simp
    · rw [Int.add_mul_emod_self_left]; simp
  · rw [if_neg hr, if_neg hr]
    have e : -(A : Int) = ((n : Int) - (r : Int)) + (n : Int) * (-(q : Int) + -1) := by rw [hA, Int.mul_add, Int.mul_neg]; omega
    rw [e]
    constructor
    · rw [Int.add_mul_ediv_left _ _ (by omega), Int.ediv_eq_zero_of_lt (by omega) (by omega)]; simp
    · rw [Int.add_mul_emod_self_left, Int.emod_eq_of_lt (by omega) (by omega)]
set_option maxRecDepth 100000 in
set_option maxHeartbeats 8000000 in
theorem rdiv_any (s n : Int) (hs : S128 s) (hn : 0 < n) (hn' : n < 9223372036854775808) (w : World) : Calls Try.prog 29 #[.agg #[.int .i64 (lim (s) 0), .int .i64 (lim (s) 1), .int .i64 (lim (s) 2), .int .i64 (lim (s) 3), .int .i64 (lim (s) 4), .int .i64 (lim (s) 5), .int .i64 (lim (s) 6), .int .i64 (lim (s) 7)], .int .i64 n] w (RDivPost s n w) := by
  obtain ⟨N, hN⟩ : ∃ N : Nat, n = (N : Int) := ⟨n.toNat, by omega⟩
  subst hN
  have hneg := negative_any s hs
  have hmin := rminus_any s
  generalize hfs : lim s = fs at hneg hmin ⊢
  obtain ⟨x, hx⟩ : ∃ x, x = w.heap.size := ⟨_, rfl⟩
  have o0 := Own.own2 w hx 38 #[.int .i64 (fs 0), .int .i64 (fs 1), .int .i64 (fs 2), .int .i64 (fs 3), .int .i64 (fs 4), .int .i64 (fs 5), .int .i64 (fs 6), .int .i64 (fs 7)] 38 #[.int .i64 0, .int .i64 0, .int .i64 0, .int .i64 0, .int .i64 0, .int .i64 0, .int .i64 0, .int .i64 0]
  have HO := Lib.hid (And.intro hx (And.intro o0 (And.intro hneg (And.intro hmin (And.intro hfs hs)))))
  clear hx o0 hneg hmin hfs hs
  go_enter Try.func29, Try.ntmps29
  go_upto_region 1 with (fail)
  rw [← HO.out.1]
  refine wp_gen (Own w [(x, 38, #[.int .i64 (fs 0), .int .i64 (fs 1), .int .i64 (fs 2), .int .i64 (fs 3), .int .i64 (fs 4), .int .i64 (fs 5), .int .i64 (fs 6), .int .i64 (fs 7)]), (x + 1, 38, #[.int .i64 0, .int .i64 0, .int .i64 0, .int .i64 0, .int .i64 0, .int .i64 0, .int .i64 0, .int .i64 0])]) HO.out.2.1 ?_
  intro w0 hS
  have hl := @wpList_load_blk Try.prog _ _ _ _ (hS.get 0 rfl) 38 0 8 [.int .i64 (fs 0), .int .i64 (fs 1), .int .i64 (fs 2), .int .i64 (fs 3), .int .i64 (fs 4), .int .i64 (fs 5), .int .i64 (fs 6), .int .i64 (fs 7)] _ Try.underlying38 rfl rfl (by kernel_rfl) (fun j _ => by simp)
  have HS := Lib.hid hS
  clear hS
  go_wp2_with (refine hl rfl _ rfl rfl ?_)
  refine (HO.out.2.2.1 _).mono ?_
  rintro e w1 ⟨rfl, hb1⟩
  clear hl
  have hS := HS.out.call hb1
  obtain ⟨A, hA⟩ : ∃ A : Nat, (A : Int) = if s < 0 then -s else s := ⟨(if s < 0 then -s else s).toNat, by split <;> omega⟩
  have HA := Lib.hid hA
  have HS1 := Lib.hid hS
  clear hA hS hb1 HS
  go_upto_if 12 with (fail)
  go_cut [5, 6] (fun s5 s6 wx => ∃ fa : Nat → Int, s5 = .int .i64 0 ∧ s6 = .bool (decide (s < 0)) ∧ (∀ j, fa j = lim (A : Int) j) ∧ Own w [(x, 38, #[.int .i64 (fa 0), .int .i64 (fa 1), .int .i64 (fa 2), .int .i64 (fa 3), .int .i64 (fa 4), .int .i64 (fa 5), .int .i64 (fa 6), .int .i64 (fa 7)]), (x + 1, 38, #[.int .i64 0, .int .i64 0, .int .i64 0, .int .i64 0, .int .i64 0, .int .i64 0, .int .i64 0, .int .i64 0])] wx)
  case first =>
    by_cases h : s < 0
    · have d : decide (s < 0) = true := by simp [h]
      rw [d]
      have HD := Lib.hid d
      clear d
      have hl := @wpList_load_blk Try.prog _ _ _ _ (HS1.out.get 0 rfl) 38 0 8 [.int .i64 (fs 0), .int .i64 (fs 1), .int .i64 (fs 2), .int .i64 (fs 3), .int .i64 (fs 4), .int .i64 (fs 5), .int .i64 (fs 6), .int .i64 (fs 7)] _ Try.underlying38 rfl rfl (by kernel_rfl) (fun j _ => by simp)
      go_wp2_with (refine hl rfl _ rfl rfl ?_)
      refine (HO.out.2.2.2.1 _).mono ?_
      rintro e w2 ⟨rfl, hb2⟩
      have hS := HS1.out.call hb2
      clear hl
      generalize hfm : lim (-s) = fm
      have hs2 := @wpList_store_blk Try.prog _ _ _ _ (hS.get 0 rfl) 38 0 8 [.int .i64 (fm 0), .int .i64 (fm 1), .int .i64 (fm 2), .int .i64 (fm 3), .int .i64 (fm 4), .int .i64 (fm 5), .int .i64 (fm 6), .int .i64 (fm 7)] rfl (Nat.le_of_ble_eq_true rfl) (by kernel_rfl) (List.all_eq_true.1 rfl)
      have HT := Lib.hid (And.intro hfm ((OwnR.of (n := 8) hS rfl).put [.int .i64 (fm 0), .int .i64 (fm 1), .int .i64 (fm 2), .int .i64 (fm 3), .int .i64 (fm 4), .int .i64 (fm 5), .int .i64 (fm 6), .int .i64 (fm 7)] rfl))
      clear hS hfm hb2
      go_wp2_with (refine hs2 rfl _ _ rfl rfl rfl ?_)
      go_meet
      exact ⟨fm, rfl, by rw [HD.out], fun j => by rw [← HT.out.1, HA.out, if_pos h], HT.out.2⟩
    · have d : decide (s < 0) = false := by simp; omega
      rw [d]
      have HD := Lib.hid d
      clear d
      go_wp2_with fail
      go_meet
      exact ⟨fs, rfl, by rw [HD.out], fun j => by rw [← HO.out.2.2.2.2.1, HA.out, if_neg (by omega)], HS1.out⟩
  case rest =>
    obtain ⟨fa, rfl, rfl, hfa, hS⟩ := hcut
    have HFA := Lib.hid hfa
    obtain ⟨y, hy⟩ : ∃ y, y = wc.heap.size := ⟨_, rfl⟩
    have o1 := hS.alloc hy 38 #[.int .i64 0, .int .i64 0, .int .i64 0, .int .i64 0, .int .i64 0, .int .i64 0, .int .i64 0, .int .i64 0]
    have HY := Lib.hid (And.intro hy o1)
    clear hy o1 hS hfa
    go_wp2_with fail
    rw [← HY.out.1]
    go_loopw [8, 9] (fun s8 i wr => ∃ (m : Nat) (f : Nat → Int) (r : Nat), m ≤ 128 ∧ i = .int .i64 ((m : Int) - 1) ∧ s8 = .int .u64 (r : Nat) ∧ DvSt w wr x y A N m fa f r) (fun _ i _ => ((intOf i) + 1).toNat)
    case atStart => exact ⟨128, fun _ => 0, 0, Nat.le_refl _, rfl, rfl, ⟨HY.out.2, fun j hj => by rw [ql_start _ _ hj]; rfl, by
      have h1 := HA.out
      have h2 := HO.out.2.2.2.2.2
      unfold S128 at h2
      have h3 : A < 2 ^ 128 := by split at h1 <;> omega
      rw [Nat.div_eq_of_lt h3]; simp⟩⟩
    case round =>
      obtain ⟨m, f, r, hm, rfl, rfl, hst⟩ := hrel
      by_cases hlt : 0 < m
      · obtain ⟨i, rfl⟩ : ∃ i, m = i + 1 := ⟨m - 1, by omega⟩
        have ei : ((i + 1 : Nat) : Int) - 1 = (i : Int) := by omega
        rw [ei]
        obtain ⟨q, hq⟩ : ∃ q, q = i / 16 := ⟨_, rfl⟩
        obtain ⟨t, ht⟩ : ∃ t, t = i % 16 := ⟨_, rfl⟩
        have hq8 : q < 8 := by omega
        have ht16 : t < 16 := by omega
        have hN0 : 0 < N := by omega
        have hr : r < N := by rw [hst.r_is]; exact Nat.mod_lt _ hN0
        obtain ⟨d1, d2⟩ := div_bit A N i hN0
        rw [← hst.r_is] at d1 d2
        obtain ⟨L, hL⟩ : ∃ L, L = A / 2 ^ (16 * q) % 65536 := ⟨_, rfl⟩
        obtain ⟨b, hb⟩ : ∃ b, b = A / 2 ^ i % 2 := ⟨_, rfl⟩
        have hb2 : b < 2 := by rw [hb]; exact Nat.mod_lt _ (by omega)
        have hLb : L / 2 ^ t % 2 = b := by rw [hL, hb, hq, ht]; exact bit_lim A i
        rw [← hb] at d1 d2
        have z0 : wr.cell? ⟨x, q, none⟩ = some (.int .i64 (L : Nat)) := by
          rw [(hst.own.get 0 rfl).cell q, f8_get fa q hq8, HFA.out q, lim_nat, ← hL]
        obtain ⟨g, hg⟩ : ∃ g, g = ql (A / N) (i + 1) q := ⟨_, rfl⟩
        have hgb : g < 65536 := by rw [hg]; exact ql_bd _ _ _
        have z1 : wr.cell? ⟨y, q, none⟩ = some (.int .i64 (g : Nat)) := by
          rw [(hst.own.get 2 rfl).cell q, f8_get f q hq8, hst.f_is q hq8, ← hg]
        have zf := hst.own.free 2 rfl
        have e1 : (i : Int) / 16 = (q : Int) := by omega
        have e2 : (i : Int) % 16 = (t : Int) := by omega
        have hp1 : 2 ^ t ≤ 32768 := Nat.pow_le_pow_right (by omega) (show t ≤ 15 by omega)
        have m1 : ((L : Int) / 2 ^ t).tmod 2 = (b : Int) := by
          rw [← hLb, Int.tmod_eq_emod_of_nonneg (Int.ediv_nonneg (by omega) (Int.le_of_lt (Int.pow_pos (by omega))))]
          simp
        have f1 : (i : Int).tdiv 16 = (q : Int) := by rw [Int.tdiv_eq_ediv_of_nonneg (by omega)]; omega
        have f2 : (i : Int).tmod 16 = (t : Int) := by rw [Int.tmod_eq_emod_of_nonneg (by omega)]; omega
        have HQ := Lib.hid (And.intro hq (And.intro ht (And.intro hL (And.intro hb (And.intro hLb (And.intro hg (And.intro d1 (And.intro d2 hst))))))))
        clear hq ht hL hb hLb hg d1 d2 hst e1 e2
        go_upto_region 10 with (fail)
        obtain ⟨v, hv⟩ : ∃ v, v = r * 2 + b := ⟨_, rfl⟩
        have ev : (r : Int) * 2 + (b : Int) = (v : Int) := by omega
        have hv2 : v < 2 * N := by omega
        rw [ev]
        have HE := Lib.hid (And.intro hv hm)
        clear hv ev hr hb2 z0 m1 hm hlt ei
        obtain ⟨p, hp⟩ : ∃ p, p = 2 ^ t := ⟨_, rfl⟩
        have HW := Lib.hid (show wrap64 ((i : Int) - 1) = (i : Int) - 1 by have := HE.out.2; unfold wrap64; omega)
        by_cases hc : N ≤ v
        · go_upto_region 12 with (fail)
          have kp : (2 : Int) ^ t = (p : Int) := by rw [hp]; simp
          rw [← hp] at hp1
          have HP := Lib.hid hp
          clear hp
          have hst2 := HQ.out.2.2.2.2.2.2.2.2.own.set 2 q rfl (.int .i64 ((g : Int) + (p : Int)))
          rw [f8_set f q hq8] at hst2
          have HS2 := Lib.hid hst2
          clear hst2
          go_wp2_with fail
          go_roundw
          case rel =>
            obtain ⟨hq, ht, hL, hb, hLb, hg, d1, d2, hst⟩ := HQ.out
            refine ⟨i, updF f q ((g : Int) + (p : Int)), v - N, by have := HE.out.2; omega, by rw [HW.out], by congr 1; omega, ⟨HS2.out, fun j hj => ?_, ?_⟩⟩
            · have hs := ql_step (A / N) i
              rw [← hq, d2, ← HE.out.1, if_pos hc, ← ht, ← HP.out, ← hg] at hs
              unfold updF
              by_cases hjq : j = q
              · subst hjq
                rw [if_pos rfl, hs]; simp
              · rw [if_neg hjq, hst.f_is j hj, ql_same (A / N) i j (by omega)]
            · rw [d1, ← HE.out.1, if_pos hc]
          case measure => rw [HW.out]; simp [intOf]
        · go_upto_region 8 with (fail)
          go_wp2_with fail
          go_roundw
          case rel =>
            obtain ⟨hq, ht, hL, hb, hLb, hg, d1, d2, hst⟩ := HQ.out
            refine ⟨i, f, v, by have := HE.out.2; omega, by rw [HW.out], rfl, ⟨hst.own, fun j hj => ?_, ?_⟩⟩
            · have hs := ql_step (A / N) i
              rw [← hq, d2, ← HE.out.1, if_neg hc, ← ht, ← hg] at hs
              by_cases hjq : j = q
              · subst hjq
                rw [hst.f_is j hj, ← hg, hs]; simp
              · rw [hst.f_is j hj, ql_same (A / N) i j (by omega)]
            · rw [d1, ← HE.out.1, if_neg hc]
          case measure => rw [HW.out]; simp [intOf]
      · obtain rfl : m = 0 := by omega
        have hff : ∀ j, j < 8 → f j = lim ((A / N : Nat) : Int) j := fun j hj => by rw [hst.f_is j hj, lim_nat, ql_end]
        have hrr : r = A % N := by rw [hst.r_is]; simp
        have hown := hst.own
        rw [f8_congr hff] at hown
        have hrN : r < N := by rw [hrr]; exact Nat.mod_lt _ (by omega)
        have hA := HA.out
        obtain ⟨nq, hnq⟩ : ∃ nq : Int, nq = -((A / N : Nat) : Int) := ⟨_, rfl⟩
        have hmq := rminus_any ((A / N : Nat) : Int)
        rw [← hnq] at hmq
        have hpq := rplus_any nq (-1)
        have hm1 : ∀ w : World, Calls Try.prog 44 #[.agg #[.int .i64 1, .int .i64 0, .int .i64 0, .int .i64 0, .int .i64 0, .int .i64 0, .int .i64 0, .int .i64 0]] w (LimPost (-1) w) := fun w => rminus_any 1 w
        unfold LimPost at hmq hpq hm1
        by_cases hs0 : s < 0
        · rw [if_pos hs0] at hA
          have hsA : s = -(A : Int) := by omega
          have hN0 : 0 < N := by omega
          have hd := @neg_div A N hN0
          rw [← hsA, ← hnq, ← hrr] at hd
          have d : decide (s < 0) = true := by simp [hs0]
          rw [d]
          generalize hfq : lim ((A / N : Nat) : Int) = fq at hown hmq
          generalize hf1 : lim (-1) = f1 at hm1 hpq
          generalize hfm : lim (nq + -1) = fm at hpq
          generalize hfn : lim nq = fn at hmq hpq
          have HM := Lib.hid (And.intro hmq (And.intro hm1 hpq))
          have HD := Lib.hid (And.intro hd (And.intro hfn hfm))
          have hl0 := @wpList_load_blk Try.prog _ _ _ _ (hown.get 2 rfl) 38 0 8 [.int .i64 (fq 0), .int .i64 (fq 1), .int .i64 (fq 2), .int .i64 (fq 3), .int .i64 (fq 4), .int .i64 (fq 5), .int .i64 (fq 6), .int .i64 (fq 7)] _ Try.underlying38 rfl rfl (by kernel_rfl) (fun j _ => by simp)
          have H0 := Lib.hid hown
          clear hfq hf1 hfm hfn hmq hm1 hpq hd hsA hN0 hA hs0 d hown hff hrr hst hnq
          go_wp2_with (refine hl0 rfl _ rfl rfl ?_)
          refine (HM.out.1 _).mono ?_
          rintro e w2 ⟨rfl, hb2⟩
          clear hl0
          have h2 := H0.out.call hb2
          have hst := @wpList_store_blk Try.prog _ _ _ _ (h2.get 2 rfl) 38 0 8 [.int .i64 (fn 0), .int .i64 (fn 1), .int .i64 (fn 2), .int .i64 (fn 3), .int .i64 (fn 4), .int .i64 (fn 5), .int .i64 (fn 6), .int .i64 (fn 7)] rfl (Nat.le_of_ble_eq_true rfl) (by kernel_rfl) (List.all_eq_true.1 rfl)
          have H2 := Lib.hid ((OwnR.of (n := 8) (h2.front 2 rfl) rfl).put [.int .i64 (fn 0), .int .i64 (fn 1), .int .i64 (fn 2), .int .i64 (fn 3), .int .i64 (fn 4), .int .i64 (fn 5), .int .i64 (fn 6), .int .i64 (fn 7)] rfl)
          clear h2 hb2 H0
          go_upto_region 16 with (refine hst rfl _ _ rfl rfl rfl ?_)
          refine wp_gen (Own w [(y, 38, #[.int .i64 (fn 0), .int .i64 (fn 1), .int .i64 (fn 2), .int .i64 (fn 3), .int .i64 (fn 4), .int .i64 (fn 5), .int .i64 (fn 6), .int .i64 (fn 7)]), (x, 38, #[.int .i64 (fa 0), .int .i64 (fa 1), .int .i64 (fa 2), .int .i64 (fa 3), .int .i64 (fa 4), .int .i64 (fa 5), .int .i64 (fa 6), .int .i64 (fa 7)]), (x + 1, 38, #[.int .i64 0, .int .i64 0, .int .i64 0, .int .i64 0, .int .i64 0, .int .i64 0, .int .i64 0, .int .i64 0])]) H2.out ?_
          clear H2 hst
          intro w3 hS3
          have H3 := Lib.hid hS3
          by_cases hr0 : r = 0
          · have HR := Lib.hid hr0
            subst hr0
            have hl0 := @wpList_load_blk Try.prog _ _ _ _ (hS3.get 0 rfl) 38 0 8 [.int .i64 (fn 0), .int .i64 (fn 1), .int .i64 (fn 2), .int .i64 (fn 3), .int .i64 (fn 4), .int .i64 (fn 5), .int .i64 (fn 6), .int .i64 (fn 7)] _ Try.underlying38 rfl rfl (by kernel_rfl) (fun j _ => by simp)
            have hst := @wpList_store_blk Try.prog _ _ _ _ (hS3.get 2 rfl) 38 0 8 [.int .i64 (fn 0), .int .i64 (fn 1), .int .i64 (fn 2), .int .i64 (fn 3), .int .i64 (fn 4), .int .i64 (fn 5), .int .i64 (fn 6), .int .i64 (fn 7)] rfl (Nat.le_of_ble_eq_true rfl) (by kernel_rfl) (List.all_eq_true.1 rfl)
            have HT := Lib.hid ((OwnR.of (n := 8) (hS3.front 2 rfl) rfl).put [.int .i64 (fn 0), .int .i64 (fn 1), .int .i64 (fn 2), .int .i64 (fn 3), .int .i64 (fn 4), .int .i64 (fn 5), .int .i64 (fn 6), .int .i64 (fn 7)] rfl)
            clear hS3 H3
            go_wp2_with (first | (refine hst rfl _ _ rfl rfl rfl ?_) | (refine hl0 rfl _ rfl rfl ?_))
            refine bodyPost_gen1 (Own w [(x + 1, 38, #[.int .i64 (fn 0), .int .i64 (fn 1), .int .i64 (fn 2), .int .i64 (fn 3), .int .i64 (fn 4), .int .i64 (fn 5), .int .i64 (fn 6), .int .i64 (fn 7)]), (y, 38, #[.int .i64 (fn 0), .int .i64 (fn 1), .int .i64 (fn 2), .int .i64 (fn 3), .int .i64 (fn 4), .int .i64 (fn 5), .int .i64 (fn 6), .int .i64 (fn 7)]), (x, 38, #[.int .i64 (fa 0), .int .i64 (fa 1), .int .i64 (fa 2), .int .i64 (fa 3), .int .i64 (fa 4), .int .i64 (fa 5), .int .i64 (fa 6), .int .i64 (fa 7)])]) (HT.out) ?_
            intro w9 hS9
            exact bodyPost_ret (v := .tuple #[.agg #[.int .i64 (fn 0), .int .i64 (fn 1), .int .i64 (fn 2), .int .i64 (fn 3), .int .i64 (fn 4), .int .i64 (fn 5), .int .i64 (fn 6), .int .i64 (fn 7)], .int .i64 0]) (results_blk2 (P := Try.prog) Try.results29 rfl (hS9.get 0 rfl) 8 [.int .i64 (fn 0), .int .i64 (fn 1), .int .i64 (fn 2), .int .i64 (fn 3), .int .i64 (fn 4), .int .i64 (fn 5), .int .i64 (fn 6), .int .i64 (fn 7)] _ Try.underlying38 rfl rfl (by kernel_rfl) (fun j _ => by simp)) rfl (rd_post (by rw [HD.out.1.1]; simp [HD.out.2.1]) (by rw [HD.out.1.2]; simp) hS9.bel)
          · have hr1 : 0 < r := by omega
            have HR := Lib.hid hr0
            clear hr0 hS3
            have k6 : IntKind.i64.wrap (r : Int) = r := IntWalk.i64_in _ (by omega)
            have k7 : IntKind.i64.wrap ((N : Int) - (r : Int)) = (N : Int) - (r : Int) := IntWalk.i64_in _ (by omega)
            go_upto_region 17 with (fail)
            have hS : (Own w [(y, 38, #[.int .i64 (fn 0), .int .i64 (fn 1), .int .i64 (fn 2), .int .i64 (fn 3), .int .i64 (fn 4), .int .i64 (fn 5), .int .i64 (fn 6), .int .i64 (fn 7)]), (x, 38, #[.int .i64 (fa 0), .int .i64 (fa 1), .int .i64 (fa 2), .int .i64 (fa 3), .int .i64 (fa 4), .int .i64 (fa 5), .int .i64 (fa 6), .int .i64 (fa 7)])]) (w3.drew) := (H3.out.take 2).drew
            refine reg_start (Own w [(y, 38, #[.int .i64 (fn 0), .int .i64 (fn 1), .int .i64 (fn 2), .int .i64 (fn 3), .int .i64 (fn 4), .int .i64 (fn 5), .int .i64 (fn 6), .int .i64 (fn 7)]), (x, 38, #[.int .i64 (fa 0), .int .i64 (fa 1), .int .i64 (fa 2), .int .i64 (fa 3), .int .i64 (fa 4), .int .i64 (fa 5), .int .i64 (fa 6), .int .i64 (fa 7)])]) (by kernel_rfl) hS ?_
            refine reg_take (i := 0) (v := .agg [.int .i64 (fn 0), .int .i64 (fn 1), .int .i64 (fn 2), .int .i64 (fn 3), .int .i64 (fn 4), .int .i64 (fn 5), .int .i64 (fn 6), .int .i64 (fn 7)].toArray) rfl (by kernel_rfl) (by kernel_rfl) (by kernel_rfl) (fun _ _ _ h => h) (yieldsIf_load_mid (by kernel_rfl) _ _ rfl y 0 rfl [.int .i64 (fn 0), .int .i64 (fn 1), .int .i64 (fn 2), .int .i64 (fn 3), .int .i64 (fn 4), .int .i64 (fn 5), .int .i64 (fn 6), .int .i64 (fn 7)] _ (fun w' h => range_blk (h.get 0 rfl) 0 8 _ rfl (fun j _ => by simp)) Try.underlying38 rfl (by kernel_rfl)) hS ?_
            try simp only [List.getElem_toArray, List.getElem_cons_succ, List.getElem_cons_zero, Act.put, List.setIfInBounds_toArray, List.set_cons_zero, List.set_cons_succ]
            refine reg_take (i := 1) (v := ?_) rfl (by kernel_rfl) (by kernel_rfl) (by kernel_rfl) (fun _ _ _ h => h) (Or.inl ⟨by kernel_rfl, ?_⟩) hS ?_
            rotate_left
            · (intro w' hSw; go_simp <;> with_reducible rfl)
            try simp only [List.getElem_toArray, List.getElem_cons_succ, List.getElem_cons_zero, Act.put, List.setIfInBounds_toArray, List.set_cons_zero, List.set_cons_succ]
            refine reg_take (i := 4) (v := ?_) rfl (by kernel_rfl) (by kernel_rfl) (by kernel_rfl) (fun _ _ _ h => h) (Or.inl ⟨by kernel_rfl, ?_⟩) hS ?_
            rotate_left
            · (intro w' hSw; go_simp <;> with_reducible rfl)
            try simp only [List.getElem_toArray, List.getElem_cons_succ, List.getElem_cons_zero, Act.put, List.setIfInBounds_toArray, List.set_cons_zero, List.set_cons_succ]
            refine reg_take (i := 5) (v := ?_) rfl (by kernel_rfl) (by kernel_rfl) (by kernel_rfl) (fun _ _ _ h => h) (Or.inl ⟨by kernel_rfl, ?_⟩) hS ?_
            rotate_left
            · (intro w' hSw; go_simp <;> with_reducible rfl)
            try simp only [List.getElem_toArray, List.getElem_cons_succ, List.getElem_cons_zero, Act.put, List.setIfInBounds_toArray, List.set_cons_zero, List.set_cons_succ]
            refine reg_take (i := 6) (v := ?_) rfl (by kernel_rfl) (by kernel_rfl) (by kernel_rfl) (fun _ _ _ h => h) (Or.inl ⟨by kernel_rfl, ?_⟩) hS ?_
            rotate_left
            · (intro w' hSw; go_simp <;> with_reducible rfl)
            try simp only [List.getElem_toArray, List.getElem_cons_succ, List.getElem_cons_zero, Act.put, List.setIfInBounds_toArray, List.set_cons_zero, List.set_cons_succ]
            refine reg_take (i := 7) (v := ?_) rfl (by kernel_rfl) (by kernel_rfl) (by kernel_rfl) (fun _ _ _ h => h) (Or.inl ⟨by kernel_rfl, ?_⟩) hS ?_
            rotate_left
            · (intro w' hSw; go_simp <;> with_reducible rfl)
            try simp only [List.getElem_toArray, List.getElem_cons_succ, List.getElem_cons_zero, Act.put, List.setIfInBounds_toArray, List.set_cons_zero, List.set_cons_succ]
            have HDR := Lib.hid H3.out.drew
            clear H3
            generalize w3.drew = wd at hS HDR ⊢
            refine reg_call (i := 2) rfl (by kernel_rfl) (fun K hK => ?_)
            have HK := Lib.hid hK
            clear hK
            go_simp
            refine (HM.out.2.1 _).mono ?_
            rintro e w4 ⟨rfl, h4⟩
            have H4 := Lib.hid (HDR.out.call h4)
            clear h4
            go_wp2_with fail
            refine HK.out.to (Own w [(y, 38, #[.int .i64 (fn 0), .int .i64 (fn 1), .int .i64 (fn 2), .int .i64 (fn 3), .int .i64 (fn 4), .int .i64 (fn 5), .int .i64 (fn 6), .int .i64 (fn 7)]), (x, 38, #[.int .i64 (fa 0), .int .i64 (fa 1), .int .i64 (fa 2), .int .i64 (fa 3), .int .i64 (fa 4), .int .i64 (fa 5), .int .i64 (fa 6), .int .i64 (fa 7)])]) (fun _ h => h) (H4.out.take 2) ?_
            clear HK hS
            have hS : (Own w [(y, 38, #[.int .i64 (fn 0), .int .i64 (fn 1), .int .i64 (fn 2), .int .i64 (fn 3), .int .i64 (fn 4), .int .i64 (fn 5), .int .i64 (fn 6), .int .i64 (fn 7)]), (x, 38, #[.int .i64 (fa 0), .int .i64 (fa 1), .int .i64 (fa 2), .int .i64 (fa 3), .int .i64 (fa 4), .int .i64 (fa 5), .int .i64 (fa 6), .int .i64 (fa 7)])]) (w4) := H4.out.take 2
            try simp only [List.getElem_toArray, List.getElem_cons_succ, List.getElem_cons_zero, Act.put, List.setIfInBounds_toArray, List.set_cons_zero, List.set_cons_succ]
            refine reg_call (i := 3) rfl (by kernel_rfl) (fun K hK => ?_)
            have HK := Lib.hid hK
            clear hK
            go_simp
            refine (HM.out.2.2 _).mono ?_
            rintro e w5 ⟨rfl, h5⟩
            have H5 := Lib.hid (H4.out.call h5)
            clear h5
            go_wp2_with fail
            refine HK.out.to (Own w [(y, 38, #[.int .i64 (fn 0), .int .i64 (fn 1), .int .i64 (fn 2), .int .i64 (fn 3), .int .i64 (fn 4), .int .i64 (fn 5), .int .i64 (fn 6), .int .i64 (fn 7)]), (x, 38, #[.int .i64 (fa 0), .int .i64 (fa 1), .int .i64 (fa 2), .int .i64 (fa 3), .int .i64 (fa 4), .int .i64 (fa 5), .int .i64 (fa 6), .int .i64 (fa 7)])]) (fun _ h => h) (H5.out.take 2) ?_
            clear HK hS
            have hS : (Own w [(y, 38, #[.int .i64 (fn 0), .int .i64 (fn 1), .int .i64 (fn 2), .int .i64 (fn 3), .int .i64 (fn 4), .int .i64 (fn 5), .int .i64 (fn 6), .int .i64 (fn 7)]), (x, 38, #[.int .i64 (fa 0), .int .i64 (fa 1), .int .i64 (fa 2), .int .i64 (fa 3), .int .i64 (fa 4), .int .i64 (fa 5), .int .i64 (fa 6), .int .i64 (fa 7)])]) (w5) := H5.out.take 2
            try simp only [List.getElem_toArray, List.getElem_cons_succ, List.getElem_cons_zero, Act.put, List.setIfInBounds_toArray, List.set_cons_zero, List.set_cons_succ]
            refine reg_call (i := 8) rfl (by kernel_rfl) (fun K hK => ?_)
            have HK := Lib.hid hK
            clear hK
            refine step_store_blk (H5.out.get 2 rfl) 38 0 8 [.int .i64 (fm 0), .int .i64 (fm 1), .int .i64 (fm 2), .int .i64 (fm 3), .int .i64 (fm 4), .int .i64 (fm 5), .int .i64 (fm 6), .int .i64 (fm 7)] rfl (by decide) (by kernel_rfl) (List.all_eq_true.1 rfl) rfl _ _ rfl rfl rfl ?_
            have HT := Lib.hid ((OwnR.of (n := 8) (H5.out.front 2 rfl) rfl).put [.int .i64 (fm 0), .int .i64 (fm 1), .int .i64 (fm 2), .int .i64 (fm 3), .int .i64 (fm 4), .int .i64 (fm 5), .int .i64 (fm 6), .int .i64 (fm 7)] rfl)
            refine HK.out.to (fun w' => Own w [(x + 1, 38, #[.int .i64 (fm 0), .int .i64 (fm 1), .int .i64 (fm 2), .int .i64 (fm 3), .int .i64 (fm 4), .int .i64 (fm 5), .int .i64 (fm 6), .int .i64 (fm 7)]), (y, 38, #[.int .i64 (fn 0), .int .i64 (fn 1), .int .i64 (fn 2), .int .i64 (fn 3), .int .i64 (fn 4), .int .i64 (fn 5), .int .i64 (fn 6), .int .i64 (fn 7)]), (x, 38, #[.int .i64 (fa 0), .int .i64 (fa 1), .int .i64 (fa 2), .int .i64 (fa 3), .int .i64 (fa 4), .int .i64 (fa 5), .int .i64 (fa 6), .int .i64 (fa 7)])] w') (fun _ h => h.sub (List.sublist_cons_self _ _)) (HT.out) ?_
            clear HK hS
            have hS : (fun w' => Own w [(x + 1, 38, #[.int .i64 (fm 0), .int .i64 (fm 1), .int .i64 (fm 2), .int .i64 (fm 3), .int .i64 (fm 4), .int .i64 (fm 5), .int .i64 (fm 6), .int .i64 (fm 7)]), (y, 38, #[.int .i64 (fn 0), .int .i64 (fn 1), .int .i64 (fn 2), .int .i64 (fn 3), .int .i64 (fn 4), .int .i64 (fn 5), .int .i64 (fn 6), .int .i64 (fn 7)]), (x, 38, #[.int .i64 (fa 0), .int .i64 (fa 1), .int .i64 (fa 2), .int .i64 (fa 3), .int .i64 (fa 4), .int .i64 (fa 5), .int .i64 (fa 6), .int .i64 (fa 7)])] w') (setFrom w5 (x + 1) 0 [.int .i64 (fm 0), .int .i64 (fm 1), .int .i64 (fm 2), .int .i64 (fm 3), .int .i64 (fm 4), .int .i64 (fm 5), .int .i64 (fm 6), .int .i64 (fm 7)]) := HT.out
            try simp only [List.getElem_toArray, List.getElem_cons_succ, List.getElem_cons_zero, Act.put, List.setIfInBounds_toArray, List.set_cons_zero, List.set_cons_succ]
            refine reg_take (i := 9) (v := ?_) rfl (by kernel_rfl) (by kernel_rfl) (by kernel_rfl) (fun _ _ _ h => h) (Or.inl ⟨by kernel_rfl, ?_⟩) hS ?_
            rotate_left
            · (intro w' hSw; go_simp <;> with_reducible rfl)
            try simp only [List.getElem_toArray, List.getElem_cons_succ, List.getElem_cons_zero, Act.put, List.setIfInBounds_toArray, List.set_cons_zero, List.set_cons_succ]
            refine wpAnyH_done (by kernel_rfl) ?_ _
            try simp only [List.getElem_toArray, List.getElem_cons_succ, List.getElem_cons_zero]
            try simp only [List.getElem_toArray, List.getElem_cons_succ, List.getElem_cons_zero, Act.put, List.setIfInBounds_toArray, List.set_cons_zero, List.set_cons_succ]
            clear hS
            go_wp2_with fail
            refine bodyPost_gen1 (Own w [(x + 1, 38, #[.int .i64 (fm 0), .int .i64 (fm 1), .int .i64 (fm 2), .int .i64 (fm 3), .int .i64 (fm 4), .int .i64 (fm 5), .int .i64 (fm 6), .int .i64 (fm 7)]), (y, 38, #[.int .i64 (fn 0), .int .i64 (fn 1), .int .i64 (fn 2), .int .i64 (fn 3), .int .i64 (fn 4), .int .i64 (fn 5), .int .i64 (fn 6), .int .i64 (fn 7)]), (x, 38, #[.int .i64 (fa 0), .int .i64 (fa 1), .int .i64 (fa 2), .int .i64 (fa 3), .int .i64 (fa 4), .int .i64 (fa 5), .int .i64 (fa 6), .int .i64 (fa 7)])]) (HT.out) ?_
            intro w9 hS9
            exact bodyPost_ret (v := .tuple #[.agg #[.int .i64 (fm 0), .int .i64 (fm 1), .int .i64 (fm 2), .int .i64 (fm 3), .int .i64 (fm 4), .int .i64 (fm 5), .int .i64 (fm 6), .int .i64 (fm 7)], .int .i64 ((N : Int) - (r : Int))]) (results_blk2 (P := Try.prog) Try.results29 rfl (hS9.get 0 rfl) 8 [.int .i64 (fm 0), .int .i64 (fm 1), .int .i64 (fm 2), .int .i64 (fm 3), .int .i64 (fm 4), .int .i64 (fm 5), .int .i64 (fm 6), .int .i64 (fm 7)] _ Try.underlying38 rfl rfl (by kernel_rfl) (fun j _ => by simp)) rfl (rd_post (by rw [HD.out.1.1, if_neg HR.out, HD.out.2.2]) (by rw [HD.out.1.2, if_neg HR.out]) hS9.bel)
        · rw [if_neg hs0] at hA
          have d : decide (s < 0) = false := by simp; omega
          rw [d]
          have hq1 : s / (N : Int) = ((A / N : Nat) : Int) := by rw [← hA]; simp
          have hq2 : s % (N : Int) = (r : Int) := by rw [← hA, hrr]; simp
          rw [← hq1] at hown
          generalize hfq : lim (s / (N : Int)) = fq at hown
          have HD := Lib.hid (And.intro hfq hq2)
          have hl0 := @wpList_load_blk Try.prog _ _ _ _ (hown.get 2 rfl) 38 0 8 [.int .i64 (fq 0), .int .i64 (fq 1), .int .i64 (fq 2), .int .i64 (fq 3), .int .i64 (fq 4), .int .i64 (fq 5), .int .i64 (fq 6), .int .i64 (fq 7)] _ Try.underlying38 rfl rfl (by kernel_rfl) (fun j _ => by simp)
          have hst2 := @wpList_store_blk Try.prog _ _ _ _ (hown.get 1 rfl) 38 0 8 [.int .i64 (fq 0), .int .i64 (fq 1), .int .i64 (fq 2), .int .i64 (fq 3), .int .i64 (fq 4), .int .i64 (fq 5), .int .i64 (fq 6), .int .i64 (fq 7)] rfl (Nat.le_of_ble_eq_true rfl) (by kernel_rfl) (List.all_eq_true.1 rfl)
          have HT := Lib.hid ((OwnR.of (n := 8) (hown.front 1 rfl) rfl).put [.int .i64 (fq 0), .int .i64 (fq 1), .int .i64 (fq 2), .int .i64 (fq 3), .int .i64 (fq 4), .int .i64 (fq 5), .int .i64 (fq 6), .int .i64 (fq 7)] rfl)
          clear hmq hpq hm1 hfq hq1 hq2 hown hff hst d hs0 hA hrr hnq
          go_wp2_with (first | (refine hst2 rfl _ _ rfl rfl rfl ?_) | (refine hl0 rfl _ rfl rfl ?_))
          refine bodyPost_gen1 (Own w [(x + 1, 38, #[.int .i64 (fq 0), .int .i64 (fq 1), .int .i64 (fq 2), .int .i64 (fq 3), .int .i64 (fq 4), .int .i64 (fq 5), .int .i64 (fq 6), .int .i64 (fq 7)]), (x, 38, #[.int .i64 (fa 0), .int .i64 (fa 1), .int .i64 (fa 2), .int .i64 (fa 3), .int .i64 (fa 4), .int .i64 (fa 5), .int .i64 (fa 6), .int .i64 (fa 7)]), (y, 38, #[.int .i64 (fq 0), .int .i64 (fq 1), .int .i64 (fq 2), .int .i64 (fq 3), .int .i64 (fq 4), .int .i64 (fq 5), .int .i64 (fq 6), .int .i64 (fq 7)])]) (HT.out) ?_
          intro w9 hS9
          exact bodyPost_ret (v := .tuple #[.agg #[.int .i64 (fq 0), .int .i64 (fq 1), .int .i64 (fq 2), .int .i64 (fq 3), .int .i64 (fq 4), .int .i64 (fq 5), .int .i64 (fq 6), .int .i64 (fq 7)], .int .i64 (r : Int)]) (results_blk2 (P := Try.prog) Try.results29 rfl (hS9.get 0 rfl) 8 [.int .i64 (fq 0), .int .i64 (fq 1), .int .i64 (fq 2), .int .i64 (fq 3), .int .i64 (fq 4), .int .i64 (fq 5), .int .i64 (fq 6), .int .i64 (fq 7)] _ Try.underlying38 rfl rfl (by kernel_rfl) (fun j _ => by simp)) rfl (rd_post (by rw [HD.out.1]) (by rw [HD.out.2]) hS9.bel)
end Go.Proofs.Ythhgnngpaagagaa
