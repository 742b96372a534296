/-
  The contracts of tidemillref07.Whole, tidemillref08's of, Of and ahead. (Printed by mk.py.)
-/
import Derived.Test.YthhgnngpaagagaaDoorLmA
import Derived.Test.YthhgnngpaagagaaDoorAgH
namespace Go.Proofs.YthhgnngpaagagaaDoor
open Go.RowKit
set_option linter.unusedVariables false
set_option linter.unusedSimpArgs false
theorem lo_of (s : Int) : ((lim s 3 * 65536 + lim s 2) * 65536 + lim s 1) * 65536 + lim s 0 = loOf s := by
  have a0 : s = dv s 1 * 65536 + lim s 0 := by show s = s / 65536 * 65536 + s % 65536; omega
  have a1 : dv s 1 = dv s 2 * 65536 + lim s 1 := by unfold lim; show dv s 1 = dv s 1 / 65536 * 65536 + dv s 1 % 65536; omega
  have a2 : dv s 2 = dv s 3 * 65536 + lim s 2 := by unfold lim; show dv s 2 = dv s 2 / 65536 * 65536 + dv s 2 % 65536; omega
  have a3 : dv s 3 = dv s 4 * 65536 + lim s 3 := by unfold lim; show dv s 3 = dv s 3 / 65536 * 65536 + dv s 3 % 65536; omega
  have b0 := lim_bd s 0
  have b1 := lim_bd s 1
  have b2 := lim_bd s 2
  have b3 := lim_bd s 3
  unfold loOf
  generalize lim s 0 = c0 at *
  generalize lim s 1 = c1 at *
  generalize lim s 2 = c2 at *
  generalize lim s 3 = c3 at *
  generalize dv s 4 = d4 at *
  omega
theorem hi_of (s : Int) : ((lim s 7 * 65536 + lim s 6) * 65536 + lim s 5) * 65536 + lim s 4 = hiOf s % 18446744073709551616 := by
  rw [show (7 : Nat) = 3 + 4 from rfl, show (6 : Nat) = 2 + 4 from rfl, show (5 : Nat) = 1 + 4 from rfl, show (4 : Nat) = 0 + 4 from rfl, lim_hi, lim_hi, lim_hi, lim_hi]
  exact lo_of (hiOf s)
/-- What stands in lo before the round for limb i: of the limbs above it. -/
def wlo (s : Int) : Nat → Int
  | 0 => ((lim s 3 * 65536 + lim s 2) * 65536 + lim s 1) * 65536 + lim s 0
  | 1 => (lim s 3 * 65536 + lim s 2) * 65536 + lim s 1
  | 2 => lim s 3 * 65536 + lim s 2
  | 3 => lim s 3
  | _ => 0
theorem wlo_step (s : Int) (k : Nat) (hk : k < 4) : wlo s (k + 1) * 65536 + lim s k = wlo s k := by
  rcases (show k = 0 ∨ k = 1 ∨ k = 2 ∨ k = 3 by omega) with rfl | rfl | rfl | rfl
  · rfl
  · rfl
  · rfl
  · show 0 * 65536 + lim s 3 = lim s 3; omega
theorem wlo_bd (s : Int) (k : Nat) : 0 ≤ wlo s k ∧ wlo s k < 18446744073709551616 ∧ (0 < k → wlo s k < 281474976710656) := by
  have b0 := lim_bd s 0
  have b1 := lim_bd s 1
  have b2 := lim_bd s 2
  have b3 := lim_bd s 3
  match k with
  | 0 => show 0 ≤ ((lim s 3 * 65536 + lim s 2) * 65536 + lim s 1) * 65536 + lim s 0 ∧ ((lim s 3 * 65536 + lim s 2) * 65536 + lim s 1) * 65536 + lim s 0 < _ ∧ _; omega
  | 1 => show 0 ≤ (lim s 3 * 65536 + lim s 2) * 65536 + lim s 1 ∧ (lim s 3 * 65536 + lim s 2) * 65536 + lim s 1 < _ ∧ (_ → (lim s 3 * 65536 + lim s 2) * 65536 + lim s 1 < _); omega
  | 2 => show 0 ≤ lim s 3 * 65536 + lim s 2 ∧ lim s 3 * 65536 + lim s 2 < _ ∧ (_ → lim s 3 * 65536 + lim s 2 < _); omega
  | 3 => show 0 ≤ lim s 3 ∧ lim s 3 < _ ∧ (_ → lim s 3 < _); omega
  | k + 4 => show (0 : Int) ≤ 0 ∧ (0 : Int) < _ ∧ (_ → (0 : Int) < _); omega
def WholePost (s : Int) (w : World) (e : Ending) (w' : World) : Prop := e = .returned (.tuple #[.int .i64 (hiOf s), .int .u64 (loOf s)]) ∧ Below w.heap.size w w'
set_option maxRecDepth 100000 in
set_option maxHeartbeats 4000000 in
theorem whole_any (s : Int) (hs : S128 s) (w : World) : Calls Tryd.prog 32 #[.agg #[.int .i64 (lim (s) 0), .int .i64 (lim (s) 1), .int .i64 (lim (s) 2), .int .i64 (lim (s) 3), .int .i64 (lim (s) 4), .int .i64 (lim (s) 5), .int .i64 (lim (s) 6), .int .i64 (lim (s) 7)]] w (WholePost s w) := by
  obtain ⟨x, hx⟩ : ∃ x, x = w.heap.size := ⟨_, rfl⟩
  have o0 := Own.own1 w hx 33 #[.int .i64 (lim (s) 0), .int .i64 (lim (s) 1), .int .i64 (lim (s) 2), .int .i64 (lim (s) 3), .int .i64 (lim (s) 4), .int .i64 (lim (s) 5), .int .i64 (lim (s) 6), .int .i64 (lim (s) 7)]
  have HO := Lib.hid (And.intro hx (And.intro o0 hs.hi))
  clear hx o0
  go_enter Tryd.func32, Tryd.ntmps32
  go_wp2_with fail
  rw [← HO.out.1]
  go_loopw [4, 5, 6] (fun h l i wr => ∃ (k : Nat), k ≤ 4 ∧ i = .int .i64 ((k : Int) - 1) ∧ h = .int .u64 (wlo (hiOf s) k) ∧ l = .int .u64 (wlo s k) ∧ Own w [(x, 33, #[.int .i64 (lim (s) 0), .int .i64 (lim (s) 1), .int .i64 (lim (s) 2), .int .i64 (lim (s) 3), .int .i64 (lim (s) 4), .int .i64 (lim (s) 5), .int .i64 (lim (s) 6), .int .i64 (lim (s) 7)])] wr) (fun _ _ i _ => ((intOf i) + 1).toNat)
  case atStart => exact ⟨4, by omega, rfl, rfl, rfl, HO.out.2.1⟩
  case round =>
    obtain ⟨k, hk, rfl, rfl, rfl, hS⟩ := hrel
    by_cases hlt : 0 < k
    · obtain ⟨j, rfl⟩ : ∃ j, k = j + 1 := ⟨k - 1, by omega⟩
      have z0 : wr.cell? ⟨x, j, none⟩ = some (.int .i64 (lim s j)) := by rw [(hS.get 0 rfl).cell j]; exact f8_get (lim s) j (by omega)
      have z1 : wr.cell? ⟨x, j + 4, none⟩ = some (.int .i64 (lim s (j + 4))) := by rw [(hS.get 0 rfl).cell (j + 4)]; exact f8_get (lim s) (j + 4) (by omega)
      have ej : ((j + 1 : Nat) : Int) - 1 = (j : Int) := by omega
      rw [ej]
      have hj4 : j < 4 := by omega
      have b0 := wlo_bd s (j + 1)
      have b1 := wlo_bd (hiOf s) (j + 1)
      have b2 := wlo_bd s j
      have b3 := wlo_bd (hiOf s) j
      have l0 := lim_bd s j
      have l1 := lim_bd s (j + 4)
      have s0 := wlo_step s j hj4
      have s1 : wlo (hiOf s) (j + 1) * 65536 + lim s (j + 4) = wlo (hiOf s) j := by rw [lim_hi]; exact wlo_step (hiOf s) j hj4
      have q0 := b0.2.2 (by omega)
      have q1 := b1.2.2 (by omega)
      have HS := Lib.hid hS
      obtain ⟨p, hp⟩ : ∃ p, p = wlo s j := ⟨_, rfl⟩
      obtain ⟨q, hq⟩ : ∃ q, q = wlo (hiOf s) j := ⟨_, rfl⟩
      rw [← hp] at s0 b2
      rw [← hq] at s1 b3
      have HP := Lib.hid (And.intro hp hq)
      clear hp hq hS
      generalize wlo s (j + 1) = a at *
      generalize wlo (hiOf s) (j + 1) = b at *
      generalize lim s j = c at *
      generalize lim s (j + 4) = d at *
      have e1 : IntKind.u64.wrap (a * 65536) = a * 65536 := by rw [IntKind.wrap_u64]; omega
      have e2 : IntKind.u64.wrap c = c := by rw [IntKind.wrap_u64]; omega
      have e3 : IntKind.u64.wrap (a * 65536 + c) = p := by rw [IntKind.wrap_u64]; omega
      have e4 : IntKind.u64.wrap (b * 65536) = b * 65536 := by rw [IntKind.wrap_u64]; omega
      have e5 : IntKind.u64.wrap d = d := by rw [IntKind.wrap_u64]; omega
      have e6 : IntKind.u64.wrap (b * 65536 + d) = q := by rw [IntKind.wrap_u64]; omega
      go_wp2_with fail
      go_roundw
      case rel => exact ⟨j, by omega, by go_num, by rw [← HP.out.2], by rw [← HP.out.1], HS.out⟩
      case measure => simp [intOf] <;> omega
    · obtain rfl : k = 0 := by omega
      have HS := Lib.hid hS.bel
      have e0 : ((0 : Nat) : Int) - 1 = -1 := by omega
      rw [e0]
      have e1 : wlo s 0 = loOf s := lo_of s
      have e2 : IntKind.i64.wrap (wlo (hiOf s) 0) = hiOf s := by
        have := lo_of (hiOf s)
        rw [show wlo (hiOf s) 0 = loOf (hiOf s) from this, IntKind.wrap_i64]
        have := HO.out.2.2
        unfold loOf
        omega
      have e3 : wrap64 (wlo (hiOf s) 0) = hiOf s := by
        have := lo_of (hiOf s)
        rw [show wlo (hiOf s) 0 = loOf (hiOf s) from this]
        have := HO.out.2.2
        unfold loOf wrap64
        omega
      clear hS
      go_wp2_with fail
      go_ret2
      exact ⟨by rw [← e1]; rfl, HS.out⟩
theorem shr63 (n : Int) (h : I64 n) : n / 9223372036854775808 = hiOf n := by unfold I64 at h; unfold hiOf; omega
set_option maxRecDepth 100000 in
set_option maxHeartbeats 4000000 in
theorem rof_any (n : Int) (hn : I64 n) (w : World) : Calls Tryd.prog 25 #[.int .i64 n] w (LimPost n w) := by
  obtain ⟨x, hx⟩ : ∃ x, x = w.heap.size := ⟨_, rfl⟩
  have o0 := Own.own1 w hx 33 #[.int .i64 0, .int .i64 0, .int .i64 0, .int .i64 0, .int .i64 0, .int .i64 0, .int .i64 0, .int .i64 0]
  have hS128 : S128 n := by unfold I64 at hn; unfold S128; omega
  have HO := Lib.hid (And.intro hx (And.intro o0 hS128))
  have k1 : IntKind.u64.wrap n = loOf n := by rw [IntKind.wrap_u64]; rfl
  have k2 := shr63 n hn
  have k3 : n / 2 ^ 63 = hiOf n := by rw [← k2]; rfl
  clear hx o0 hS128
  go_enter Tryd.func25, Tryd.ntmps25
  go_wp2_with fail
  refine (limbs_any n HO.out.2.2 _).mono ?_
  rintro e w2 ⟨rfl, hb2⟩
  rw [← HO.out.1]
  have hS := HO.out.2.1.call hb2
  have z0_0 := hS.cell 0 0 rfl rfl; have z0_1 := hS.cell 0 1 rfl rfl; have z0_2 := hS.cell 0 2 rfl rfl; have z0_3 := hS.cell 0 3 rfl rfl; have z0_4 := hS.cell 0 4 rfl rfl; have z0_5 := hS.cell 0 5 rfl rfl; have z0_6 := hS.cell 0 6 rfl rfl; have z0_7 := hS.cell 0 7 rfl rfl
  have zf := hS.free 0 rfl
  have HP := Lib.hid (Own.setFrom_own [.int .i64 (lim (n) 0), .int .i64 (lim (n) 1), .int .i64 (lim (n) 2), .int .i64 (lim (n) 3), .int .i64 (lim (n) 4), .int .i64 (lim (n) 5), .int .i64 (lim (n) 6), .int .i64 (lim (n) 7)] 0 w2 _ hS).bel
  clear hS hb2 k1 k2 k3
  go_wp2_with fail
  exact bodyPost_ret (v := .agg #[.int .i64 (lim (n) 0), .int .i64 (lim (n) 1), .int .i64 (lim (n) 2), .int .i64 (lim (n) 3), .int .i64 (lim (n) 4), .int .i64 (lim (n) 5), .int .i64 (lim (n) 6), .int .i64 (lim (n) 7)]) (by simp [results, Tryd.results25, go_sem, z0_0, z0_1, z0_2, z0_3, z0_4, z0_5, z0_6, z0_7]) rfl ⟨rfl, HP.out⟩
instance (p q : Pt) : Decidable (ltP p q) := by unfold ltP; infer_instance
set_option maxRecDepth 100000 in
set_option maxHeartbeats 4000000 in
theorem ahead_any (p q : Pt) (w : World) : Calls Tryd.prog 28 #[.agg #[.int .i64 p.t, .int .i64 p.v, .int .i64 p.s], .agg #[.int .i64 q.t, .int .i64 q.v, .int .i64 q.s]] w fun e w' => e = .returned (.bool (decide (ltP p q))) ∧ Below w.heap.size w w' := by
  by_cases h1 : p.t = q.t
  · by_cases h2 : p.s = q.s
    · have hd : decide (p.v < q.v) = decide (ltP p q) := by congr 1; unfold ltP; apply propext; omega
      have d1 : (p.t == q.t) = true := by simp [h1]
      have d2 : (p.s == q.s) = true := by simp [h2]
      have HD := Lib.hid hd
      clear hd
      go_enter Tryd.func28, Tryd.ntmps28
      go_wp2_with fail
      go_ret
      exact ⟨by rw [← HD.out]; rfl, (Own.own2 w rfl _ _ _ _).bel⟩
    · have hd : decide (p.s < q.s) = decide (ltP p q) := by congr 1; unfold ltP; apply propext; omega
      have d1 : (p.t == q.t) = true := by simp [h1]
      have d2 : (p.s == q.s) = false := by simp [h2]
      have HD := Lib.hid hd
      clear hd
      go_enter Tryd.func28, Tryd.ntmps28
      go_wp2_with fail
      go_ret
      exact ⟨by rw [← HD.out]; rfl, (Own.own2 w rfl _ _ _ _).bel⟩
  · have hd : decide (p.t < q.t) = decide (ltP p q) := by congr 1; unfold ltP; apply propext; omega
    have d1 : (p.t == q.t) = false := by simp [h1]
    have HD := Lib.hid hd
    clear hd
    go_enter Tryd.func28, Tryd.ntmps28
    go_wp2_with fail
    go_ret
    exact ⟨by rw [← HD.out]; rfl, (Own.own2 w rfl _ _ _ _).bel⟩
end Go.Proofs.YthhgnngpaagagaaDoor
