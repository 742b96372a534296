/-
  The contracts of word.Sub, delta.Size and delta.put.
-/
import Derived.Test.YtboecnakndpgfaaDelta
namespace Go.Proofs.Ytboecnakndpgfaa.D
open Go.RowKit
set_option linter.unusedVariables false
set_option linter.unusedSimpArgs false
/-- A difference modulo 2^64. -/
def sub64 (a b : Int) : Int := (a - b + 9223372036854775808) % 18446744073709551616 - 9223372036854775808
theorem sub64_range (a b : Int) : -9223372036854775808 ≤ sub64 a b ∧ sub64 a b ≤ 9223372036854775807 := by unfold sub64; omega
set_option maxRecDepth 100000 in
set_option maxHeartbeats 400000 in
theorem sub_any (a b : Int) (w : World) (a0 : -9223372036854775808 ≤ a) (a1 : a ≤ 9223372036854775807) (b0 : -9223372036854775808 ≤ b) (b1 : b ≤ 9223372036854775807) :
    Calls Try.prog 20 #[.int .i64 a, .int .i64 b] w fun e w' => e = .returned (.int .i64 (sub64 a b)) ∧ w = w' := by
  have H := Lib.hid (And.intro a0 (And.intro a1 (And.intro b0 b1)))
  clear a0 a1 b0 b1
  go_enter Try.func20, Try.ntmps20
  go_wp2
  go_ret
  refine ⟨ret_int ?_, rfl⟩
  obtain ⟨a0, a1, b0, b1⟩ := H.out
  unfold sub64
  unfold wrap64
  simp only [IntKind.wrap_u64]
  omega
/-- The bits of a step of a step. -/
def mk (k : Nat) : Nat := 2 ^ ah k - 1 - (if k < 4 then 1 else 0)
def dbits (z : Nat) : List Nat := bitsTo (mk (cls z)) (ah (cls z)) (ah (cls z)) ++ bitsTo z (wd (cls z)) (wd (cls z))
theorem wd_le {k : Nat} (hk : k ≤ 4) : wd k ≤ 64 := by
  rcases (show k = 0 ∨ k = 1 ∨ k = 2 ∨ k = 3 ∨ k = 4 by omega) with rfl | rfl | rfl | rfl | rfl <;> decide
theorem dbits_length (z : Nat) : (dbits z).length = ah (cls z) + wd (cls z) := by unfold dbits; rw [List.length_append, bitsTo_length, bitsTo_length]
theorem dbits_le (z : Nat) : (dbits z).length ≤ 68 := by
  rw [dbits_length]
  have := wd_le (cls_le z)
  unfold ah; omega
def DPutPost (w : World) (a : Nat) (g : Option Nat) (L' : List Nat) (e : Ending) (w' : World) : Prop :=
  e = .returned (.tuple #[]) ∧ ∃ g', Wr w' a g' L' ∧ Keeps (fun k => k = a ∨ some k = g) w w' ∧ Moved w g g'
theorem keeps_two {w w1 w2 : World} {a : Nat} {g g1 : Option Nat} (h : Keeps (fun k => k = a ∨ some k = g) w w1) (hm : Moved w g g1) (k : Keeps (fun k => k = a ∨ some k = g1) w1 w2) : Keeps (fun k => k = a ∨ some k = g) w w2 :=
  h.trans k (fun x hx e => by
    rcases e with e | e
    · exact .inl e
    · rcases hm with h | ⟨q, h, hq⟩
      · exact .inr (h ▸ e)
      · rw [h] at e; injection e with e; omega)
set_option maxRecDepth 100000 in
set_option maxHeartbeats 800000 in
theorem dput_any (w : World) (a : Nat) (g : Option Nat) (L : List Nat) (z : Nat) (h : Wr w a g L) (hz : z < 18446744073709551616) (hl : L.length ≤ 4000000) :
    Calls Try.prog 21 #[.pointer (some ⟨a, 0, none⟩), .int .u64 (z : Nat)] w (DPutPost w a g (L ++ dbits z)) := by
  have HZ := Lib.hid (And.intro h hz)
  clear h hz
  go_enter Try.func21, Try.ntmps21
  go_wp2_with fail
  refine (classOf_any _ HZ.out.2 _).mono ?_
  rintro e w1 ⟨rfl, hb1⟩
  have hk := cls_le z
  obtain ⟨k, hkk⟩ : ∃ k, k = cls z := ⟨_, rfl⟩
  rw [← hkk] at hk
  rw [← hkk]
  have hx1 := HZ.out.1.keeps (S := fun _ => False) (Keeps.of_below hb1) (fun h => h) (fun _ _ h => h)
  have H1 := Lib.hid (And.intro hx1 (And.intro hb1 hkk))
  clear hx1 hb1 hkk
  have l1 : 1 ≤ ah k ∧ ah k ≤ 4 := by unfold ah; omega
  obtain ⟨A, hA⟩ : ∃ A, A = ah k := ⟨_, rfl⟩
  rw [← hA] at l1
  have hpw : (2 : Int) ^ A = ((2 ^ A : Nat) : Int) := pow_cast A
  have hpl : 2 ^ A ≤ 2 ^ 4 := Nat.pow_le_pow_right (by omega) l1.2
  have hp1 : 2 ^ 1 ≤ 2 ^ A := Nat.pow_le_pow_right (by omega) l1.1
  obtain ⟨m, hm⟩ : ∃ m, m = mk k := ⟨_, rfl⟩
  have hmv : m = 2 ^ A - 1 - (if k < 4 then 1 else 0) := by rw [hm]; unfold mk; rw [hA]
  have hm16 : m < 16 := by rw [hmv]; omega
  have e1 : IntKind.u64.wrap (IntKind.u64.wrap ((2 : Int) ^ A) - 1) = ((2 ^ A - 1 : Nat) : Int) := by
    rw [hpw, IntKind.wrap_u64, IntKind.wrap_u64]; omega
  have e2 : k < 4 → IntKind.u64.wrap (((2 ^ A - 1 : Nat) : Int) - 1) = (m : Int) := fun h => by
    rw [IntKind.wrap_u64, hmv, if_pos h]; omega
  have e3 : ¬ k < 4 → ((2 ^ A - 1 : Nat) : Int) = (m : Int) := fun h => by rw [hmv, if_neg h]; rfl
  obtain ⟨q, hq⟩ : ∃ q, q = 2 ^ A - 1 := ⟨_, rfl⟩
  rw [← hq] at e1 e2 e3
  have HM := Lib.hid (And.intro hA (And.intro hm (And.intro e2 e3)))
  clear hpw hpl hp1 hm hmv e2 e3 hq
  go_wp2_with fail
  refine (ahead_any k hk _).mono ?_
  rintro e w2 ⟨rfl, rfl⟩
  rw [← hA]
  clear hA
  go_upto_if 13 with (fail)
  go_cut [5] (fun s5 wx => s5 = .int .u64 (m : Nat) ∧ w1 = wx)
  case first =>
    by_cases hk4 : k < 4
    · have e2 := HM.out.2.2.1 hk4
      go_wp2_with fail
      go_meet
      exact ⟨rfl, rfl⟩
    · go_wp2_with fail
      go_meet
      rw [HM.out.2.2.2 hk4]
      exact ⟨rfl, rfl⟩
  case rest =>
    obtain ⟨rfl, rfl⟩ := hcut
    clear e1
    go_wp2_with fail
    refine (ahead_any k hk _).mono ?_
    rintro e w2 ⟨rfl, rfl⟩
    rw [← HM.out.1]
    go_wp2_with fail
    refine (put_fit _ _ _ _ _ _ H1.out.1 (by omega) (by omega) (by omega) (by omega) (by omega)).mono ?_
    rintro e w2 ⟨rfl, g2, hx2, hk2, hm2⟩
    rw [show ((m : Int)).toNat = m from rfl, show ((A : Int)).toNat = A from rfl] at hx2
    have hkw : Keeps (fun k => k = a ∨ some k = g) w w2 := (Keeps.of_below H1.out.2.1).trans' hk2
    have hmw : Moved w g g2 := by
      rcases hm2 with h | ⟨q', h, hq'⟩
      · exact .inl h
      · exact .inr ⟨q', h, Nat.le_trans H1.out.2.1.size hq'⟩
    have H2 := Lib.hid (And.intro hx2 (And.intro hkw hmw))
    clear hx2 hkw hmw hk2 hm2
    go_wp2_with fail
    refine (widths_any _).mono ?_
    rintro e w3 ⟨rfl, hb3⟩
    have hx3 := H2.out.1.keeps (S := fun _ => False) (Keeps.of_below hb3) (fun h => h) (fun _ _ h => h)
    have H3 := Lib.hid (And.intro hx3 hb3)
    clear hx3 hb3
    unfold widthsV
    have ix := fun w => widths_at k (by omega) w
    have l2 := wd_le hk
    go_wp2_with fail
    clear ix
    refine (put_fit _ _ _ _ _ _ H3.out.1 (by omega) (by have := HZ.out.2; omega) (by omega) (by omega) (by rw [List.length_append, bitsTo_length]; omega)).mono ?_
    rintro e w4 ⟨rfl, g4, hx4, hk4, hm4⟩
    rw [show ((z : Int)).toNat = z from rfl, show ((wd k : Int)).toNat = wd k from rfl] at hx4
    have hk24 : Keeps (fun k => k = a ∨ some k = g2) w2 w4 := (Keeps.of_below H3.out.2).trans' hk4
    have hm24 : Moved w2 g2 g4 := by
      rcases hm4 with h | ⟨q', h, hq'⟩
      · exact .inl h
      · exact .inr ⟨q', h, Nat.le_trans H3.out.2.size hq'⟩
    have hkw4 := keeps_two H2.out.2.1 H2.out.2.2 hk24
    have hmw4 := H2.out.2.2.trans H2.out.2.1.size hm24
    have H4 := Lib.hid (And.intro hx4 (And.intro hkw4 hmw4))
    clear hx4 hk4 hm4 hk24 hm24 hkw4 hmw4
    go_wp2_with fail
    go_end0
    refine ⟨rfl, g4, ?_, H4.out.2.1, H4.out.2.2⟩
    have e : L ++ dbits z = L ++ bitsTo m A A ++ bitsTo z (wd k) (wd k) := by
      unfold dbits
      rw [← H1.out.2.2, ← HM.out.1, ← HM.out.2.1, List.append_assoc]
    rw [e]
    exact H4.out.1
end Go.Proofs.Ytboecnakndpgfaa.D
