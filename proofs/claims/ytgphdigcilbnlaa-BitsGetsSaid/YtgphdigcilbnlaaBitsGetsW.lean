/-
  The walk of the law BitsGets. (Printed by genBitsGets.py.)
-/
import Derived.Test.YtgphdigcilbnlaaBitsRr
namespace Go.Proofs.Ytgphdigcilbnlaa
open Go.RowKit

set_option maxRecDepth 100000 in
set_option maxHeartbeats 2000000 in
theorem bitsGets_walk (a0 : Option Addr) (len0 cap0 : Nat) (z0 : List Int) (a1 : Int) (a2 : Option Addr) (len2 cap2 : Nat) (z2 : List Int) (w : World) (w0 : IsRow .u8 w a0 len0 cap0 z0) (w1 : (Lit.int .i64 a1).wf = true) (w2 : IsRow .i64 w a2 len2 cap2 z2) :
    Calls Try.prog 3 #[.slice a0 len0 cap0, .int .i64 a1, .slice a2 len2 cap2] w fun e w' => e = .returned (.bool true) ∧ Below w.heap.size w w' := by
  obtain ⟨bs, hbl, hbb, hbs⟩ := w0.bytes (min len0 2000) (Nat.min_le_left _ _)
  obtain ⟨xs, hxl, hxb, hxs⟩ := w2.ints len2 (Nat.le_refl _)
  have l0 := w0.le
  have l2 := w2.le
  have b1 := wf_i64 w1
  clear w0 w1 w2
  obtain ⟨l0a, l0b, -⟩ := l0
  obtain ⟨l2a, l2b, -⟩ := l2
  obtain ⟨b1a, b1b⟩ := b1
  have HXL := Lib.hid (And.intro hxl hxb)
  clear hxl hxb
  by_cases hlen : len0 ≤ 2000
  · have hmin : min len0 2000 = len0 := Nat.min_eq_left hlen
    rw [hmin] at hbl hbs
    have HB := Lib.hid hbl
    clear hbl hmin
    have d1 : decide ((2000 : Int) < len0) = false := by simp; omega
    by_cases hn : 0 ≤ a1 ∧ a1 ≤ 8 * ((len0 : Nat) : Int)
    · go_enter Try.func3, Try.ntmps3
      go_wp2_with fail
      refine (newReader_fit _ _ _ _ _ bs _ HB.out hbs hbb (by omega) hn.1 (by omega)).mono ?_
      rintro e w1 ⟨r1, rfl, hr1, hrd1, hk1⟩
      go_wp2_with fail
      refine (rnewReader_fit _ _ _ _ (fun x => x < w.heap.size) bs _ HB.out (hbs.keeps hk1 (fun _ _ h => h)) hbb (by omega) hn.1 (by omega) (fun k hk => Nat.lt_of_lt_of_le hk hk1.size)).mono ?_
      rintro e w2 ⟨r2, rfl, hr2, hrd2, hk2⟩
      have hrd1' := hrd1.keeps hk2 (fun h => h) (fun _ _ h => h)
      have hr12 : r1 < r2 := by
        obtain ⟨A, c, hb, -⟩ := hrd1.blk
        exact Nat.lt_of_lt_of_le hb.lt hr2
      have hk : Keeps (fun _ => False) w w2 := hk1.trans' hk2
      have hrr : w.heap.size ≤ r2 := by have := hk1.size; omega
      clear hrd1 hk1 hk2 d1
      go_wp2_with fail
      go_loopw [11] (fun i wr => ∃ k p : Nat, k ≤ 200 ∧ k ≤ len2 ∧ i = .int .i64 k ∧ Rd wr r1 (fun k => w.heap.size ≤ k ∧ k < r1) bs p a1.toNat ∧ RRd wr r2 (fun x => x < w.heap.size) bs p a1.toNat ∧ Keeps (fun _ => False) w wr)
        (fun i _ => 200 - (intOf i).toNat)
      case atStart => exact ⟨0, 0, by omega, by omega, rfl, hrd1', hrd2, hk⟩
      case round =>
        clear hrd1' hrd2 hk
        obtain ⟨k, p, hk200, hkl, rfl, hx, hy, hk⟩ := hrel
        by_cases hlt : k < len2 ∧ k < 200
        · obtain ⟨hlt2, hlt200⟩ := hlt
          obtain ⟨b, off, rfl, hb, hcell⟩ := (hxs.keeps hk (fun _ _ h => h)) (by omega)
          have hcx := hcell k hlt2
          unfold intC at hcx
          obtain ⟨z, hz⟩ : ∃ z, z = xs.getD k 0 := ⟨_, rfl⟩
          rw [← hz] at hcx
          have HZ := Lib.hid hz
          clear hz hcell
          go_wp2_with fail
          refine (get_any _ _ _ _ _ _ _ hx).mono ?_
          rintro e w3 ⟨rfl, hx3, hk3⟩
          have hcx3 : w3.cell? ⟨b, off + k, none⟩ = some (.int .i64 z) :=
            (World.cell?_of_block (w := wr) (hk3.block b (World.block_lt_of_cell? wr _ hcx) (by show ¬ b = r1; omega))).trans hcx
          have hy3 := hy.keeps hk3 (by omega) (fun k hk => by omega)
          have hkw3 : Keeps (fun _ => False) w w3 := hk.trans hk3 (fun x hx e => by omega)
          clear hcx hk hk3 hy hx
          go_wp2_with fail
          refine (rget_any _ _ _ _ _ _ _ hy3).mono ?_
          rintro e w4 ⟨rfl, hy4, hk4⟩
          have hx4 := hx3.keeps hk4 (by omega) (fun k hk => by omega)
          have hkw4 : Keeps (fun _ => False) w w4 := hkw3.trans hk4 (fun x hx e => by omega)
          clear hcx3 hkw3 hk4 hy3 hx3
          obtain ⟨v, hv⟩ : ∃ v, v = getV bs p a1.toNat z := ⟨_, rfl⟩
          obtain ⟨ee, hee⟩ : ∃ ee, ee = getE p a1.toNat z := ⟨_, rfl⟩
          obtain ⟨p', hp'⟩ : ∃ p', p' = p + getN p a1.toNat z := ⟨_, rfl⟩
          rw [← hv, ← hee]
          rw [← hp'] at hx4 hy4
          clear hv hee hp'
          obtain ⟨en, hen⟩ : ∃ en, en = a1.toNat := ⟨_, rfl⟩
          rw [← hen] at hx4 hy4
          have HEN := Lib.hid hen
          clear hen
          have q1 := hy4.small
          have q2 := hy4.le
          have q3 := hy4.en_le
          obtain ⟨A, c, hyb, -⟩ := hy4.blk
          have c1 := hyb.cell 1
          have c2 := hyb.cell 2
          simp at c1 c2
          have e1 : IntKind.i64.wrap ((en : Int) - p') = (en : Int) - p' := IntWalk.i64_in _ (by omega)
          go_wp2_with fail
          go_quiet ((go_at_call 19; exact Calls.quiet_of (left_any _ _ _ _ _ _ (hx4.drewN _))))
          clear e1 c1 c2
          go_wp2_with fail
          go_roundw
          case rel =>
            obtain rfl := HEN.out
            exact ⟨k + 1, p', by omega, by omega, by go_num, hx4.drewN _, hy4.drewN _, hkw4.drewN _⟩
          case measure => simp [intOf]; omega
        · have q1 := hy.small
          have q2 := hy.le
          have q3 := hy.en_le
          obtain ⟨en, hen⟩ : ∃ en, en = a1.toNat := ⟨_, rfl⟩
          rw [← hen] at hx hy q2 q3
          have HEN := Lib.hid hen
          clear hen
          obtain ⟨A, c, hyb, -⟩ := hy.blk
          have c1 := hyb.cell 1
          have c2 := hyb.cell 2
          simp at c1 c2
          have e1 : IntKind.i64.wrap ((en : Int) - p) = (en : Int) - p := IntWalk.i64_in _ (by omega)
          by_cases hkl2 : k < len2
          all_goals
            have g1 : ¬ (k < 200 ∧ k < len2) := by omega
            go_wp2_with fail
            go_quiet ((go_at_call 19; exact Calls.quiet_of (left_any _ _ _ _ _ _ (hx.drewN _))))
            go_wp2_with fail
            go_ret
            exact ⟨rfl, (hk.drewN _).to_below⟩
    · go_enter Try.func3, Try.ntmps3
      go_wp2_with fail
      refine (newReader_arg _ _ _ _ _ (by omega) (by omega)).mono ?_
      rintro e w1 ⟨rfl, rfl⟩
      go_wp2_with fail
      refine (rnewReader_arg _ _ _ _ _ (by omega) (by omega)).mono ?_
      rintro e w1 ⟨rfl, rfl⟩
      go_wp2_with fail
      go_ret
      exact ⟨rfl, Below.refl _ _⟩
  · have hmin : min len0 2000 = 2000 := Nat.min_eq_right (by omega)
    rw [hmin] at hbl hbs
    have HB := Lib.hid hbl
    clear hbl hmin
    have d1 : decide ((2000 : Int) < len0) = true := by simp; omega
    obtain ⟨b0, off0, rfl, -, -⟩ := hbs (by omega)
    by_cases hn : 0 ≤ a1 ∧ a1 ≤ 8 * ((2000 : Nat) : Int)
    · go_enter Try.func3, Try.ntmps3
      go_wp2_with fail
      refine (newReader_fit _ _ _ _ _ bs _ HB.out hbs hbb (by omega) hn.1 (by omega)).mono ?_
      rintro e w1 ⟨r1, rfl, hr1, hrd1, hk1⟩
      go_wp2_with fail
      refine (rnewReader_fit _ _ _ _ (fun x => x < w.heap.size) bs _ HB.out (hbs.keeps hk1 (fun _ _ h => h)) hbb (by omega) hn.1 (by omega) (fun k hk => Nat.lt_of_lt_of_le hk hk1.size)).mono ?_
      rintro e w2 ⟨r2, rfl, hr2, hrd2, hk2⟩
      have hrd1' := hrd1.keeps hk2 (fun h => h) (fun _ _ h => h)
      have hr12 : r1 < r2 := by
        obtain ⟨A, c, hb, -⟩ := hrd1.blk
        exact Nat.lt_of_lt_of_le hb.lt hr2
      have hk : Keeps (fun _ => False) w w2 := hk1.trans' hk2
      have hrr : w.heap.size ≤ r2 := by have := hk1.size; omega
      clear hrd1 hk1 hk2 d1
      go_wp2_with fail
      go_loopw [11] (fun i wr => ∃ k p : Nat, k ≤ 200 ∧ k ≤ len2 ∧ i = .int .i64 k ∧ Rd wr r1 (fun k => w.heap.size ≤ k ∧ k < r1) bs p a1.toNat ∧ RRd wr r2 (fun x => x < w.heap.size) bs p a1.toNat ∧ Keeps (fun _ => False) w wr)
        (fun i _ => 200 - (intOf i).toNat)
      case atStart => exact ⟨0, 0, by omega, by omega, rfl, hrd1', hrd2, hk⟩
      case round =>
        clear hrd1' hrd2 hk
        obtain ⟨k, p, hk200, hkl, rfl, hx, hy, hk⟩ := hrel
        by_cases hlt : k < len2 ∧ k < 200
        · obtain ⟨hlt2, hlt200⟩ := hlt
          obtain ⟨b, off, rfl, hb, hcell⟩ := (hxs.keeps hk (fun _ _ h => h)) (by omega)
          have hcx := hcell k hlt2
          unfold intC at hcx
          obtain ⟨z, hz⟩ : ∃ z, z = xs.getD k 0 := ⟨_, rfl⟩
          rw [← hz] at hcx
          have HZ := Lib.hid hz
          clear hz hcell
          go_wp2_with fail
          refine (get_any _ _ _ _ _ _ _ hx).mono ?_
          rintro e w3 ⟨rfl, hx3, hk3⟩
          have hcx3 : w3.cell? ⟨b, off + k, none⟩ = some (.int .i64 z) :=
            (World.cell?_of_block (w := wr) (hk3.block b (World.block_lt_of_cell? wr _ hcx) (by show ¬ b = r1; omega))).trans hcx
          have hy3 := hy.keeps hk3 (by omega) (fun k hk => by omega)
          have hkw3 : Keeps (fun _ => False) w w3 := hk.trans hk3 (fun x hx e => by omega)
          clear hcx hk hk3 hy hx
          go_wp2_with fail
          refine (rget_any _ _ _ _ _ _ _ hy3).mono ?_
          rintro e w4 ⟨rfl, hy4, hk4⟩
          have hx4 := hx3.keeps hk4 (by omega) (fun k hk => by omega)
          have hkw4 : Keeps (fun _ => False) w w4 := hkw3.trans hk4 (fun x hx e => by omega)
          clear hcx3 hkw3 hk4 hy3 hx3
          obtain ⟨v, hv⟩ : ∃ v, v = getV bs p a1.toNat z := ⟨_, rfl⟩
          obtain ⟨ee, hee⟩ : ∃ ee, ee = getE p a1.toNat z := ⟨_, rfl⟩
          obtain ⟨p', hp'⟩ : ∃ p', p' = p + getN p a1.toNat z := ⟨_, rfl⟩
          rw [← hv, ← hee]
          rw [← hp'] at hx4 hy4
          clear hv hee hp'
          obtain ⟨en, hen⟩ : ∃ en, en = a1.toNat := ⟨_, rfl⟩
          rw [← hen] at hx4 hy4
          have HEN := Lib.hid hen
          clear hen
          have q1 := hy4.small
          have q2 := hy4.le
          have q3 := hy4.en_le
          obtain ⟨A, c, hyb, -⟩ := hy4.blk
          have c1 := hyb.cell 1
          have c2 := hyb.cell 2
          simp at c1 c2
          have e1 : IntKind.i64.wrap ((en : Int) - p') = (en : Int) - p' := IntWalk.i64_in _ (by omega)
          go_wp2_with fail
          go_quiet ((go_at_call 19; exact Calls.quiet_of (left_any _ _ _ _ _ _ (hx4.drewN _))))
          clear e1 c1 c2
          go_wp2_with fail
          go_roundw
          case rel =>
            obtain rfl := HEN.out
            exact ⟨k + 1, p', by omega, by omega, by go_num, hx4.drewN _, hy4.drewN _, hkw4.drewN _⟩
          case measure => simp [intOf]; omega
        · have q1 := hy.small
          have q2 := hy.le
          have q3 := hy.en_le
          obtain ⟨en, hen⟩ : ∃ en, en = a1.toNat := ⟨_, rfl⟩
          rw [← hen] at hx hy q2 q3
          have HEN := Lib.hid hen
          clear hen
          obtain ⟨A, c, hyb, -⟩ := hy.blk
          have c1 := hyb.cell 1
          have c2 := hyb.cell 2
          simp at c1 c2
          have e1 : IntKind.i64.wrap ((en : Int) - p) = (en : Int) - p := IntWalk.i64_in _ (by omega)
          by_cases hkl2 : k < len2
          all_goals
            have g1 : ¬ (k < 200 ∧ k < len2) := by omega
            go_wp2_with fail
            go_quiet ((go_at_call 19; exact Calls.quiet_of (left_any _ _ _ _ _ _ (hx.drewN _))))
            go_wp2_with fail
            go_ret
            exact ⟨rfl, (hk.drewN _).to_below⟩
    · go_enter Try.func3, Try.ntmps3
      go_wp2_with fail
      refine (newReader_arg _ _ _ _ _ (by omega) (by omega)).mono ?_
      rintro e w1 ⟨rfl, rfl⟩
      go_wp2_with fail
      refine (rnewReader_arg _ _ _ _ _ (by omega) (by omega)).mono ?_
      rintro e w1 ⟨rfl, rfl⟩
      go_wp2_with fail
      go_ret
      exact ⟨rfl, Below.refl _ _⟩
end Go.Proofs.Ytgphdigcilbnlaa
