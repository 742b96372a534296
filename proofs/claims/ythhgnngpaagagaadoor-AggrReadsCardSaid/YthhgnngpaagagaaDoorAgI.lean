/-
  The contracts of wide's minus, amount, Cmp, Int. (Printed by mk.py.)
-/
import Derived.Test.YthhgnngpaagagaaDoorAgB
import Derived.Test.YthhgnngpaagagaaDoorPt
import Derived.Deep.Cut
import Derived.Laws.BitsAllLaws
namespace Go.Proofs.YthhgnngpaagagaaDoor
open Go.RowKit
set_option linter.unusedVariables false
set_option linter.unusedSimpArgs false
theorem not_i64 (h : Int) (hh : I64 h) : bits .xor .i64 (-1) h = -1 - h := by
  show IntKind.i64.wrap ((BitVec.ofInt 64 (-1) ^^^ BitVec.ofInt 64 h).toNat : Int) = _
  have h1 : BitVec.ofInt 64 (-1) = BitVec.allOnes 64 := by decide
  rw [h1, BitVec.allOnes_xor, BitVec.toNat_not, BitVec.toNat_ofInt]
  unfold I64 at hh
  simp [IntKind.wrap, IntKind.bits, IntKind.signed]
  omega
theorem not_u64 (l : Int) (h0 : 0 ≤ l) (h1 : l < 18446744073709551616) : bits .xor .u64 IntKind.u64.max l = 18446744073709551615 - l := by
  show IntKind.u64.wrap ((BitVec.ofInt 64 IntKind.u64.max ^^^ BitVec.ofInt 64 l).toNat : Int) = _
  have h2 : BitVec.ofInt 64 IntKind.u64.max = BitVec.allOnes 64 := by decide
  rw [h2, BitVec.allOnes_xor, BitVec.toNat_not, BitVec.toNat_ofInt]
  simp [IntKind.wrap, IntKind.bits, IntKind.signed]
  omega
theorem not_hi (s : Int) (hs : S128 s) : bits .xor .i64 (-1) (hiOf s) = hiOf (-s - 1) := by
  rw [not_i64 _ hs.hi]; unfold hiOf; omega
theorem not_lo (s : Int) : bits .xor .u64 IntKind.u64.max (loOf s) = loOf (-s - 1) := by
  rw [not_u64 _ (loOf_nonneg s) (loOf_lt s)]; unfold loOf; omega
set_option maxRecDepth 100000 in
set_option maxHeartbeats 4000000 in
theorem minus_any (s : Int) (hs : S128 s) (w : World) : Calls Tryd.prog 56 #[.agg #[.int .i64 (hiOf s), .int .u64 (loOf s)]] w fun e w' => e = .returned (.agg #[.int .i64 (hiOf (wrp (-s))), .int .u64 (loOf (wrp (-s)))]) ∧ Below w.heap.size w w' := by
  have x1 : IntKind.i64.signed = true := rfl
  have x2 : IntKind.u64.signed = false := rfl
  obtain ⟨x, hx⟩ : ∃ x, x = w.heap.size := ⟨_, rfl⟩
  have o0 := (Own.own2 w hx 24 #[.int .i64 (hiOf s), .int .u64 (loOf s)] 24 #[.int .i64 0, .int .u64 0]).front 1 rfl
  have e1 : -s - 1 + 1 = -s := by omega
  have HO := Lib.hid (And.intro hx (And.intro o0 (And.intro hs e1)))
  clear hx o0 hs e1
  go_enter Tryd.func56, Tryd.ntmps56
  go_wp2_with fail
  rw [not_hi s HO.out.2.2.1, not_lo s]
  refine (plus_any (-s - 1) 1 _).mono ?_
  rintro e w1 ⟨rfl, hb⟩
  rw [HO.out.2.2.2, ← HO.out.1]
  obtain ⟨t, ht⟩ : ∃ t, t = wrp (-s) := ⟨_, rfl⟩
  rw [← ht]
  have HT := Lib.hid ht
  clear ht
  have hS := HO.out.2.1.call hb
  have z0_0 := hS.cell 0 0 rfl rfl; have z0_1 := hS.cell 0 1 rfl rfl; have z1_0 := hS.cell 1 0 rfl rfl; have z1_1 := hS.cell 1 1 rfl rfl
  have zf0 := hS.free 0 rfl
  have HS := Lib.hid hS
  clear hS hb
  go_wp2_with fail
  exact bodyPost_ret (v := .agg #[.int .i64 (hiOf t), .int .u64 (loOf t)]) (by simp [results, Tryd.results56, go_sem, z0_0, z0_1]) rfl ⟨by rw [HT.out], ((OwnR.of HS.out rfl).put [.int .i64 (hiOf t), .int .u64 (loOf t)] rfl).bel⟩
theorem hilo_eq {s t : Int} (h : hiOf s = hiOf t) (h' : loOf s = loOf t) : s = t := by rw [← hilo s, ← hilo t, h, h']
theorem hilo_lt {s t : Int} : s < t ↔ hiOf s < hiOf t ∨ hiOf s = hiOf t ∧ loOf s < loOf t := by unfold hiOf loOf; omega
def CmpPost (s t : Int) (w : World) (e : Ending) (w' : World) : Prop := e = .returned (.int .i64 (cmpI s t)) ∧ Below w.heap.size w w'
set_option maxHeartbeats 1000000 in
theorem wcmp_any (s t : Int) (w : World) : Calls Tryd.prog 23 #[.agg #[.int .i64 (hiOf s), .int .u64 (loOf s)], .agg #[.int .i64 (hiOf t), .int .u64 (loOf t)]] w (CmpPost s t w) := by
  obtain ⟨x, hx⟩ : ∃ x, x = w.heap.size := ⟨_, rfl⟩
  have o0 := (Own.own2 w hx 24 #[.int .i64 (hiOf s), .int .u64 (loOf s)] 24 #[.int .i64 (hiOf t), .int .u64 (loOf t)]).bel
  have hs := @hilo_lt s t
  have ht := @hilo_lt t s
  have hc : ∀ u, (s < t → u = -1) → (t < s → u = 1) → (s = t → u = 0) → Ending.returned (.int .i64 u) = Ending.returned (.int .i64 (cmpI s t)) := by
    intro u h1 h2 h3
    unfold cmpI
    by_cases g1 : s < t
    · rw [if_pos g1, h1 g1]
    · rw [if_neg g1]
      by_cases g2 : t < s
      · rw [if_pos g2, h2 g2]
      · rw [if_neg g2, h3 (by omega)]
  have HO := Lib.hid (And.intro o0 (And.intro hs (And.intro ht hc)))
  clear hx o0 hs ht hc
  by_cases c1 : hiOf s = hiOf t
  · by_cases c2 : loOf s = loOf t
    · obtain rfl := hilo_eq c1 c2
      go_enter Tryd.func23, Tryd.ntmps23
      go_wp2_with fail
      go_ret
      exact ⟨HO.out.2.2.2 _ (by omega) (by omega) (by omega), HO.out.1⟩
    · by_cases c3 : loOf s < loOf t
      · skip
        have HF := Lib.hid (show Ending.returned (.int .i64 (-1)) = Ending.returned (.int .i64 (cmpI s t)) from HO.out.2.2.2 _ (fun _ => rfl) (fun h => by have := HO.out.2.1; omega) (fun h => by rw [h] at c2; exact absurd rfl c2))
        have d1 : decide (hiOf s < hiOf t) = false := by simp; omega
        have d2 : (hiOf s == hiOf t) = true := by simp [c1]
        have d3 : (loOf s == loOf t) = false := by simp [c2]
        have d4 : decide (loOf s < loOf t) = true := by simp [c3]
        clear c1 c2 c3
        go_enter Tryd.func23, Tryd.ntmps23
        go_wp2_with fail
        go_ret
        exact ⟨HF.out, HO.out.1⟩
      · skip
        have HF := Lib.hid (show Ending.returned (.int .i64 1) = Ending.returned (.int .i64 (cmpI s t)) from HO.out.2.2.2 _ (fun h => by have := HO.out.2.1; omega) (fun _ => rfl) (fun h => by rw [h] at c2; exact absurd rfl c2))
        have d1 : decide (hiOf s < hiOf t) = false := by simp; omega
        have d2 : (hiOf s == hiOf t) = true := by simp [c1]
        have d3 : (loOf s == loOf t) = false := by simp [c2]
        have d4 : decide (loOf s < loOf t) = false := by simp; omega
        clear c1 c2 c3
        go_enter Tryd.func23, Tryd.ntmps23
        go_wp2_with fail
        go_ret
        exact ⟨HF.out, HO.out.1⟩
  · have d2 : (hiOf s == hiOf t) = false := by simp [c1]
    by_cases c2 : hiOf s < hiOf t
    · skip
      have HF := Lib.hid (show Ending.returned (.int .i64 (-1)) = Ending.returned (.int .i64 (cmpI s t)) from HO.out.2.2.2 _ (fun _ => rfl) (fun h => by have := HO.out.2.2.1; omega) (fun h => by rw [h] at c1; exact absurd rfl c1))
      have d1 : decide (hiOf s < hiOf t) = true := by simp [c2]
      skip
      clear c1 c2
      go_enter Tryd.func23, Tryd.ntmps23
      go_wp2_with fail
      go_ret
      exact ⟨HF.out, HO.out.1⟩
    · skip
      have HF := Lib.hid (show Ending.returned (.int .i64 1) = Ending.returned (.int .i64 (cmpI s t)) from HO.out.2.2.2 _ (fun h => by have := HO.out.2.1; omega) (fun _ => rfl) (fun h => by rw [h] at c1; exact absurd rfl c1))
      have d1 : decide (hiOf s < hiOf t) = false := by simp; omega
      skip
      clear c1 c2
      go_enter Tryd.func23, Tryd.ntmps23
      go_wp2_with fail
      go_ret
      exact ⟨HF.out, HO.out.1⟩
/-- A number without its sign. -/
def absI (s : Int) : Int := if s < 0 then -s else s
def AmtPost (s : Int) (w : World) (e : Ending) (w' : World) : Prop := e = .returned (.agg #[.int .u64 (hiOf (absI s)), .int .u64 (loOf (absI s))]) ∧ Below w.heap.size w w'
set_option maxRecDepth 100000 in
set_option maxHeartbeats 4000000 in
theorem amount_any (s : Int) (hs : S128 s) (w : World) : Calls Tryd.prog 40 #[.agg #[.int .i64 (hiOf s), .int .u64 (loOf s)]] w (AmtPost s w) := by
  obtain ⟨x, hx⟩ : ∃ x, x = w.heap.size := ⟨_, rfl⟩
  have o0 : Own w [(x, 24, #[.int .i64 (hiOf s), .int .u64 (loOf s)]), (x + 1, 87, #[.int .u64 0, .int .u64 0])] _ := Own.own2 w hx 24 #[.int .i64 (hiOf s), .int .u64 (loOf s)] 87 #[.int .u64 0, .int .u64 0]
  have HO := Lib.hid (And.intro hx (And.intro o0 hs))
  clear hx o0 hs
  go_enter Tryd.func40, Tryd.ntmps40
  go_wp2_with fail
  refine (below_any _ _ _).mono ?_
  rintro e w1 ⟨rfl, hb⟩
  have hS := HO.out.2.1.call hb
  by_cases h0 : s < 0
  · have d0 : decide (hiOf s < 0) = true := by simp [hi_neg, h0]
    rw [d0, ← HO.out.1]
    have HA := Lib.hid (show absI s = -s by unfold absI; rw [if_pos h0])
    have z0_0 := hS.cell 0 0 rfl rfl; have z0_1 := hS.cell 0 1 rfl rfl; have z1_0 := hS.cell 1 0 rfl rfl; have z1_1 := hS.cell 1 1 rfl rfl
    have HS := Lib.hid (And.intro hS h0)
    clear hS hb d0 h0
    go_wp2_with fail
    refine (minus_any s HO.out.2.2 _).mono ?_
    rintro e w2 ⟨rfl, hb2⟩
    have hS := HS.out.1.call hb2
    obtain ⟨t, ht⟩ : ∃ t, t = wrp (-s) := ⟨_, rfl⟩
    rw [← ht]
    have eh : IntKind.u64.wrap (hiOf t) = hiOf (absI s) := by
      have h1 := HO.out.2.2
      have h2 := HS.out.2
      rw [HA.out, ht, wrp_hi]
      unfold S128 at h1
      unfold hiOf
      simp [IntKind.wrap, IntKind.signed, IntKind.bits]
      omega
    have el : loOf t = loOf (absI s) := by rw [ht, wrp_lo, HA.out]
    have HE := Lib.hid (And.intro eh el)
    clear HS ht eh el hb2 z0_0 z0_1 z1_0 z1_1
    have hS2 := ((OwnR.of hS rfl).put [.int .i64 (hiOf t), .int .u64 (loOf t)] rfl)
    have HS2 := Lib.hid hS2
    have z0_0 := hS.cell 0 0 rfl rfl; have z0_1 := hS.cell 0 1 rfl rfl; have z1_0 := hS.cell 1 0 rfl rfl; have z1_1 := hS.cell 1 1 rfl rfl
    have zf0 := hS.free 0 rfl; have zf1 := hS.free 1 rfl
    clear hS hS2
    go_upto_region 3 with (fail)
    refine wp_gen (Own w [(x, 24, #[.int .i64 (hiOf t), .int .u64 (loOf t)]), (x + 1, 87, #[.int .u64 0, .int .u64 0])]) HS2.out ?_
    clear HS2 z0_0 z0_1 z1_0 z1_1 zf0 zf1
    intro w3 hS
    have hS := hS.front 1 rfl
    have z0_0 := hS.cell 0 0 rfl rfl; have z0_1 := hS.cell 0 1 rfl rfl; have z1_0 := hS.cell 1 0 rfl rfl; have z1_1 := hS.cell 1 1 rfl rfl
    have zf0 := hS.free 0 rfl
    have HS := Lib.hid hS
    clear hS
    go_wp2_with fail
    exact bodyPost_ret (v := .agg #[.int .u64 (IntKind.u64.wrap (hiOf t)), .int .u64 (loOf t)]) (by simp [results, Tryd.results40, go_sem, z0_0, z0_1]) rfl ⟨by rw [HE.out.1, HE.out.2], ((OwnR.of HS.out rfl).put [.int .u64 (IntKind.u64.wrap (hiOf t)), .int .u64 (loOf t)] rfl).bel⟩
  · have d0 : decide (hiOf s < 0) = false := by simp [hi_neg]; omega
    rw [d0, ← HO.out.1]
    have ha : absI s = s := by unfold absI; rw [if_neg h0]
    have eh : IntKind.u64.wrap (hiOf s) = hiOf s := by
      have h1 := HO.out.2.2
      unfold S128 at h1
      unfold hiOf
      simp [IntKind.wrap, IntKind.signed, IntKind.bits]
      omega
    have HE := Lib.hid (And.intro eh ha)
    clear hb d0 h0 ha
    have hS := hS.front 1 rfl
    have z0_0 := hS.cell 0 0 rfl rfl; have z0_1 := hS.cell 0 1 rfl rfl; have z1_0 := hS.cell 1 0 rfl rfl; have z1_1 := hS.cell 1 1 rfl rfl
    have zf0 := hS.free 0 rfl
    have HS := Lib.hid hS
    clear hS
    go_wp2_with fail
    exact bodyPost_ret (v := .agg #[.int .u64 (hiOf s), .int .u64 (loOf s)]) (by simp [results, Tryd.results40, go_sem, z0_0, z0_1]) rfl ⟨by rw [HE.out.2], ((OwnR.of HS.out rfl).put [.int .u64 (hiOf s), .int .u64 (loOf s)] rfl).bel⟩
end Go.Proofs.YthhgnngpaagagaaDoor
