/-
  The contracts of word.Add, delta.mark, delta.take and delta.ended.
-/
import Derived.Test.YtgphdigcilbnlaaDeltaR
import Derived.Test.YtgphdigcilbnlaaZag
import Derived.Test.YtgphdigcilbnlaaBitsRr
namespace Go.Proofs.Ytgphdigcilbnlaa
open Go.RowKit
set_option linter.unusedVariables false
set_option linter.unusedSimpArgs false
set_option maxRecDepth 100000 in
set_option maxHeartbeats 400000 in
theorem add_any (a b : Int) (w : World) (a0 : -9223372036854775808 ≤ a) (a1 : a ≤ 9223372036854775807) (b0 : -9223372036854775808 ≤ b) (b1 : b ≤ 9223372036854775807) :
    Calls Try.prog 48 #[.int .i64 a, .int .i64 b] w fun e w' => e = .returned (.int .i64 (add64 a b)) ∧ w = w' := by
  have H := Lib.hid (And.intro a0 (And.intro a1 (And.intro b0 b1)))
  clear a0 a1 b0 b1
  go_enter Try.func48, Try.ntmps48
  go_wp2
  go_ret
  refine ⟨ret_int ?_, rfl⟩
  obtain ⟨a0, a1, b0, b1⟩ := H.out
  unfold add64
  unfold wrap64
  simp only [IntKind.wrap_u64]
  omega
/-- The class ahead, i bits of it read, at p: the class, the error, the place behind. -/
def markR (bs : List Nat) (en : Nat) : Nat → Nat → Nat × Int × Nat
  | 0, p => (4, 0, p)
  | f + 1, p => if p < en then (if bitOf bs p = 0 then (4 - (f + 1), 0, p + 1) else markR bs en f (p + 1)) else (0, 10, p)
theorem markR_cls (bs : List Nat) (en f p : Nat) (hf : f ≤ 4) : (markR bs en f p).1 ≤ 4 := by
  induction f generalizing p with
  | zero => exact Nat.le_refl _
  | succ f ih =>
    unfold markR
    split
    · split
      · show 4 - (f + 1) ≤ 4; omega
      · exact ih _ (by omega)
    · exact Nat.zero_le _
theorem markR_le (bs : List Nat) (en f p : Nat) (h : p ≤ en) : (markR bs en f p).2.2 ≤ en := by
  induction f generalizing p with
  | zero => exact h
  | succ f ih =>
    unfold markR
    split
    · split
      · show p + 1 ≤ en; omega
      · exact ih _ (by omega)
    · exact h
theorem gets_one (bs : List Nat) (p : Nat) : gets bs p 1 = bitOf bs p := by simp [gets]
theorem get_one (bs : List Nat) (p en : Nat) (h : p < en) : getV bs p en 1 = bitOf bs p ∧ getE p en 1 = 0 ∧ getN p en 1 = 1 := by
  unfold getV getE getN
  rw [if_pos (by omega), if_pos (by omega), if_pos (by omega), if_pos (by omega)]
  exact ⟨gets_one bs p, rfl, rfl⟩
theorem get_none (bs : List Nat) (p en : Nat) (n : Int) (h : (en : Int) - p < n) (h0 : 0 ≤ n) (h1 : n ≤ 64) : getV bs p en n = 0 ∧ getE p en n = 10 ∧ getN p en n = 0 := by
  unfold getV getE getN
  rw [if_neg (by omega), if_pos (by omega), if_neg (by omega), if_neg (by omega)]
  exact ⟨rfl, rfl, rfl⟩
theorem get_some (bs : List Nat) (p en n : Nat) (h : p + n ≤ en) (h1 : n ≤ 64) : getV bs p en n = gets bs p n ∧ getE p en n = 0 ∧ getN p en n = n := by
  unfold getV getE getN
  rw [if_pos (by omega), if_pos (by omega), if_pos (by omega), if_pos (by omega)]
  exact ⟨rfl, rfl, rfl⟩
def MarkPost (w : World) (r : Nat) (D : Nat → Prop) (bs : List Nat) (en : Nat) (m : Nat × Int × Nat) (e : Ending) (w' : World) : Prop :=
  e = .returned (.tuple #[.int .i64 (m.1 : Nat), .int .i64 m.2.1]) ∧ Rd w' r D bs m.2.2 en ∧ Keeps (fun k => k = r) w w'
set_option maxRecDepth 100000 in
set_option maxHeartbeats 800000 in
theorem mark_any (w : World) (r : Nat) (D : Nat → Prop) (bs : List Nat) (p en : Nat) (h : Rd w r D bs p en) :
    Calls Try.prog 52 #[.pointer (some ⟨r, 0, none⟩)] w (MarkPost w r D bs en (markR bs en 4 p)) := by
  have HH := Lib.hid h
  clear h
  go_enter Try.func52, Try.ntmps52
  go_wp2_with fail
  go_loopw [4] (fun i wr => ∃ k : Nat, k ≤ 4 ∧ i = .int .i64 k ∧ Rd wr r D bs (p + k) en ∧ Keeps (fun k => k = r) w wr ∧ markR bs en 4 p = markR bs en (4 - k) (p + k))
    (fun i _ => 4 - (intOf i).toNat)
  case atStart => exact ⟨0, Nat.zero_le _, rfl, HH.out, Keeps.refl _ _, rfl⟩
  case round =>
    obtain ⟨k, hk, rfl, hrr, hkr, hmr⟩ := hrel
    by_cases hlt : k < 4
    · obtain ⟨f, hf⟩ : ∃ f, 4 - k = f + 1 := ⟨3 - k, by omega⟩
      rw [hf] at hmr
      have HR := Lib.hid (And.intro hrr (And.intro hkr (And.intro hmr hf)))
      clear hrr hkr hmr hf
      go_wp2_with fail
      refine (get_any _ _ _ _ _ _ _ HR.out.1).mono ?_
      rintro e w2 ⟨rfl, hr2, hk2⟩
      by_cases hp : p + k < en
      · obtain ⟨g1, g2, g3⟩ := get_one bs (p + k) en hp
        rw [g3] at hr2
        rw [g1, g2]
        have hb := bitOf_lt bs (p + k)
        obtain ⟨b, hbb⟩ : ∃ b, b = bitOf bs (p + k) := ⟨_, rfl⟩
        rw [← hbb] at hb
        rw [← hbb]
        have H2 := Lib.hid (And.intro hr2 (And.intro (HR.out.2.1.trans' hk2) (And.intro hbb hp)))
        clear hr2 hk2 g1 g2 g3 hbb hp
        rcases (show b = 0 ∨ b = 1 by omega) with rfl | rfl
        · rw [show ((0 : Nat) : Int) = 0 from rfl]
          go_wp2_with fail
          go_ret2
          obtain ⟨h1, h2, h3, h4⟩ := H2.out
          obtain ⟨-, -, m1, m2⟩ := HR.out
          rw [m1]
          unfold markR
          rw [if_pos h4, if_pos h3.symm]
          refine ⟨?_, ?_, h2⟩
          · show _ = Ending.returned (.tuple #[.int .i64 ((4 - (f + 1) : Nat) : Int), .int .i64 0])
            rw [show 4 - (f + 1) = k by omega]
            rfl
          · exact h1
        · rw [show ((1 : Nat) : Int) = 1 from rfl]
          go_wp2_with fail
          go_roundw
          case rel =>
            obtain ⟨h1, h2, h3, h4⟩ := H2.out
            obtain ⟨-, -, m1, m2⟩ := HR.out
            refine ⟨k + 1, by omega, by go_num, h1, h2, ?_⟩
            rw [m1, show 4 - (k + 1) = f by omega]
            show (if p + k < en then _ else _) = _
            rw [if_pos h4, if_neg (by omega)]
            rfl
          case measure => simp [intOf]; omega
      · obtain ⟨g1, g2, g3⟩ := get_none bs (p + k) en 1 (by omega) (by omega) (by omega)
        rw [g3] at hr2
        rw [g1, g2]
        have H2 := Lib.hid (And.intro hr2 (And.intro (HR.out.2.1.trans' hk2) hp))
        clear hr2 hk2 g1 g2 g3 hp
        go_wp2_with fail
        go_ret2
        obtain ⟨h1, h2, h4⟩ := H2.out
        obtain ⟨-, -, m1, m2⟩ := HR.out
        rw [m1]
        unfold markR
        rw [if_neg h4]
        exact ⟨rfl, h1, h2⟩
    · obtain rfl : k = 4 := by omega
      have HR := Lib.hid (And.intro hrr (And.intro hkr hmr))
      clear hrr hkr hmr
      go_wp2_with fail
      go_ret2
      rw [HR.out.2.2]
      exact ⟨rfl, HR.out.1, HR.out.2.1⟩
/-- A step of a step, its class read: it, the error, the place behind. -/
def takeM (bs : List Nat) (en c : Nat) (e : Int) (q : Nat) : Int × Int × Nat :=
  if e = 0 then
    if q + wd c ≤ en then
      if cls (gets bs q (wd c)) = c then (zag (gets bs q (wd c)), 0, q + wd c) else (0, 11, q + wd c)
    else (0, 10, q)
  else (0, e, q)
def takeR (bs : List Nat) (en p : Nat) : Int × Int × Nat := takeM bs en (markR bs en 4 p).1 (markR bs en 4 p).2.1 (markR bs en 4 p).2.2
theorem markR_err (bs : List Nat) (en f p : Nat) : (markR bs en f p).2.1 = 0 ∨ (markR bs en f p).2.1 = 10 := by
  induction f generalizing p with
  | zero => exact .inl rfl
  | succ f ih =>
    unfold markR
    split
    · split
      · exact .inl rfl
      · exact ih _
    · exact .inr rfl
theorem takeR_le (bs : List Nat) (en p : Nat) (h : p ≤ en) : (takeR bs en p).2.2 ≤ en := by
  have := markR_le bs en 4 p h
  unfold takeR takeM
  split
  · split
    · split <;> assumption
    · exact this
  · exact this
theorem gets_64 (bs : List Nat) (p n : Nat) (h : n ≤ 64) : gets bs p n < 18446744073709551616 :=
  Nat.lt_of_lt_of_le (gets_lt bs p n) (Nat.le_trans (Nat.pow_le_pow_right (by omega) h) (by decide))
theorem takeR_range (bs : List Nat) (en p : Nat) : -9223372036854775808 ≤ (takeR bs en p).1 ∧ (takeR bs en p).1 ≤ 9223372036854775807 := by
  unfold takeR takeM
  split
  · split
    · split
      · exact zag_range (gets_64 _ _ _ (wd_le (markR_cls _ _ _ _ (Nat.le_refl _))))
      · exact ⟨by show _ ≤ (0 : Int); omega, by show (0 : Int) ≤ _; omega⟩
    · exact ⟨by show _ ≤ (0 : Int); omega, by show (0 : Int) ≤ _; omega⟩
  · exact ⟨by show _ ≤ (0 : Int); omega, by show (0 : Int) ≤ _; omega⟩
def TakePost (w : World) (r : Nat) (D : Nat → Prop) (bs : List Nat) (en : Nat) (m : Int × Int × Nat) (e : Ending) (w' : World) : Prop :=
  e = .returned (.tuple #[.int .i64 m.1, .int .i64 m.2.1]) ∧ Rd w' r D bs m.2.2 en ∧ Keeps (fun k => k = r) w w'
theorem Rd.below {w w' : World} {r : Nat} {D : Nat → Prop} {bs : List Nat} {a en : Nat} (h : Rd w r D bs a en) (hb : Below w.heap.size w w') : Rd w' r D bs a en :=
  h.keeps (S := fun _ => False) (Keeps.of_below hb) (fun h => h) (fun _ _ h => h)
set_option maxRecDepth 100000 in
set_option maxHeartbeats 800000 in
theorem take_any (w : World) (r : Nat) (D : Nat → Prop) (bs : List Nat) (p en : Nat) (h : Rd w r D bs p en) :
    Calls Try.prog 47 #[.pointer (some ⟨r, 0, none⟩)] w (TakePost w r D bs en (takeR bs en p)) := by
  have HH := Lib.hid h
  clear h
  go_enter Try.func47, Try.ntmps47
  go_wp2_with fail
  refine (mark_any _ _ _ _ _ _ HH.out).mono ?_
  rintro e w1 ⟨rfl, hr1, hk1⟩
  have hc := markR_cls bs en 4 p (Nat.le_refl _)
  have he := markR_err bs en 4 p
  have ht : takeR bs en p = takeM bs en (markR bs en 4 p).1 (markR bs en 4 p).2.1 (markR bs en 4 p).2.2 := rfl
  obtain ⟨m, hm⟩ : ∃ m, m = markR bs en 4 p := ⟨_, rfl⟩
  rw [← hm] at hc he hr1 ht
  rw [← hm]
  clear hm
  obtain ⟨c, e, q⟩ := m
  simp only [] at hc he hr1 ht
  have H1 := Lib.hid (And.intro hr1 (And.intro hk1 ht))
  clear hr1 hk1 ht
  rcases he with rfl | rfl
  · go_wp2_with fail
    refine (widths_any _).mono ?_
    rintro e w2 ⟨rfl, hb2⟩
    have H2 := Lib.hid (And.intro (H1.out.1.below hb2) (H1.out.2.1.trans' (Keeps.of_below hb2)))
    clear hb2
    unfold widthsV
    have ix := fun w => widths_at c (by omega) w
    go_wp2_with fail
    refine (get_any _ _ _ _ _ _ _ H2.out.1).mono ?_
    rintro e w3 ⟨rfl, hr3, hk3⟩
    have hw := wd_le hc
    by_cases hfit : q + wd c ≤ en
    · obtain ⟨g1, g2, g3⟩ := get_some bs q en (wd c) hfit hw
      rw [g3] at hr3
      rw [g1, g2]
      have hz := gets_64 bs q (wd c) hw
      obtain ⟨z, hzz⟩ : ∃ z, z = gets bs q (wd c) := ⟨_, rfl⟩
      rw [← hzz] at hz
      rw [← hzz]
      have H3 := Lib.hid (And.intro hr3 (And.intro (H2.out.2.trans' hk3) (And.intro hzz (And.intro hfit hz))))
      clear hr3 hk3 g1 g2 g3 hzz hfit hz ix hw
      go_wp2_with fail
      refine (classOf_any _ H3.out.2.2.2.2 _).mono ?_
      rintro e w4 ⟨rfl, hb4⟩
      have H4 := Lib.hid (And.intro (H3.out.1.below hb4) (H3.out.2.1.trans' (Keeps.of_below hb4)))
      clear hb4
      by_cases hcl : cls z = c
      · have hne : (((cls z : Nat) : Int) != (c : Int)) = false := by simp [hcl]
        have hne2 : (((cls z : Nat) : Int) == (c : Int)) = true := by simp [hcl]
        have HC := Lib.hid hcl
        clear hcl
        go_wp2_with fail
        refine (zag_any _ _ H3.out.2.2.2.2).mono ?_
        rintro e w5 ⟨rfl, rfl⟩
        go_wp2_with fail
        go_ret2
        obtain ⟨-, -, h3, h4, -⟩ := H3.out
        rw [H1.out.2.2]
        unfold takeM
        rw [if_pos (rfl : (0 : Int) = 0), if_pos h4, ← h3, if_pos HC.out]
        exact ⟨rfl, H4.out.1, H4.out.2⟩
      · have hne : (((cls z : Nat) : Int) != (c : Int)) = true := by simp; omega
        have hne2 : (((cls z : Nat) : Int) == (c : Int)) = false := by simp; omega
        have HC := Lib.hid hcl
        clear hcl
        go_wp2_with fail
        go_ret2
        obtain ⟨-, -, h3, h4, -⟩ := H3.out
        rw [H1.out.2.2]
        unfold takeM
        rw [if_pos (rfl : (0 : Int) = 0), if_pos h4, ← h3, if_neg HC.out]
        exact ⟨rfl, H4.out.1, H4.out.2⟩
    · obtain ⟨g1, g2, g3⟩ := get_none bs q en (wd c) (by omega) (by omega) (by omega)
      rw [g3] at hr3
      rw [g1, g2]
      have H3 := Lib.hid (And.intro hr3 (And.intro (H2.out.2.trans' hk3) hfit))
      clear hr3 hk3 g1 g2 g3 hfit ix hw
      go_wp2_with fail
      go_ret2
      rw [H1.out.2.2]
      unfold takeM
      rw [if_pos (rfl : (0 : Int) = 0), if_neg H3.out.2.2]
      exact ⟨rfl, H3.out.1, H3.out.2.1⟩
  · go_wp2_with fail
    go_ret2
    rw [H1.out.2.2]
    unfold takeM
    rw [if_neg (by omega)]
    exact ⟨rfl, H1.out.1, H1.out.2.1⟩
def endR (bs : List Nat) (en p : Nat) : Bool := decide (en - p < 8) && decide (gets bs p (min (en - p) 64) = 0)
set_option maxRecDepth 100000 in
set_option maxHeartbeats 800000 in
theorem ended_any (w : World) (r : Nat) (D : Nat → Prop) (bs : List Nat) (p en : Nat) (h : Rd w r D bs p en) :
    Calls Try.prog 49 #[.pointer (some ⟨r, 0, none⟩)] w fun e w' => e = .returned (.bool (endR bs en p)) ∧ Keeps (fun k => k = r) w w' := by
  have hle := h.le
  have hsm := h.small
  have hen := h.en_le
  have HH := Lib.hid h
  clear h
  obtain ⟨n, hn⟩ : ∃ n : Nat, n = en - p := ⟨_, rfl⟩
  have hni : (en : Int) - p = (n : Int) := by omega
  have hn8 : n ≤ 8796093022208 := by omega
  have HN := Lib.hid (And.intro hn hle)
  clear hn hle hsm hen
  have fin : ∀ b, b = endR bs en p → Ending.returned (.bool b) = .returned (.bool (endR bs en p)) := fun b h => by rw [h]
  have FIN := Lib.hid fin
  clear fin
  go_enter Try.func49, Try.ntmps49
  go_wp2_with fail
  refine (left_any _ _ _ _ _ _ HH.out).mono ?_
  rintro e w1 ⟨rfl, k1, rfl⟩
  rw [hni]
  clear hni
  by_cases h64 : n < 64
  · have hmi : min (n : Int) 64 = (n : Int) := by omega
    have hd : decide ((64 : Int) < (n : Int)) = false := by simp; omega
    have hd2 : decide ((n : Int) < 64) = true := by simp; omega
    go_wp2_with fail
    refine (get_any _ _ _ _ _ _ _ (HH.out.drewN k1)).mono ?_
    rintro e w2 ⟨rfl, hr2, hk2⟩
    obtain ⟨g1, g2, g3⟩ := get_some bs p en n (by obtain ⟨h1, h2⟩ := HN.out; omega) (by omega)
    have H2 := Lib.hid (Keeps.trans' ((Keeps.refl _ w).drewN k1) hk2)
    have hz := gets_64 bs p n (by omega)
    obtain ⟨z, hzz⟩ : ∃ z, z = gets bs p n := ⟨_, rfl⟩
    rw [← hzz] at hz g1
    rw [g1, g2]
    have H3 := Lib.hid (And.intro hzz hz)
    clear hr2 hk2 g1 g2 g3 hzz hz hmi hd hd2
    have hmn : min n 64 = n := by omega
    have HMN := Lib.hid hmn
    clear hmn
    by_cases h8 : n < 8
    · by_cases h0 : z = 0
      · subst h0
        rw [show ((0 : Nat) : Int) = 0 from rfl]
        go_wp2_with fail
        go_ret
        refine ⟨FIN.out _ ?_, H2.out⟩
        unfold endR
        rw [← HN.out.1, HMN.out, ← H3.out.1]
        simp [h8]
      · have d : ((z : Int) == 0) = false := by simp; omega
        go_wp2_with fail
        go_ret
        refine ⟨FIN.out _ ?_, H2.out⟩
        unfold endR
        rw [← HN.out.1, HMN.out, ← H3.out.1]
        simp [h0]
    · go_wp2_with fail
      go_ret
      refine ⟨FIN.out _ ?_, H2.out⟩
      unfold endR
      rw [← HN.out.1]
      simp [h8]
  · have hmi : min (n : Int) 64 = 64 := by omega
    go_wp2_with fail
    all_goals
      refine (get_any _ _ _ _ _ _ _ (HH.out.drewN k1)).mono ?_
      rintro e w2 ⟨rfl, hr2, hk2⟩
      have H2 := Lib.hid (Keeps.trans' ((Keeps.refl _ w).drewN k1) hk2)
      clear hr2 hk2
      have h8 : ¬ n < 8 := by omega
      have d8 : decide ((n : Int) < 8) = false := by simp; omega
      go_wp2_with fail
      go_ret
      refine ⟨FIN.out _ ?_, H2.out⟩
      unfold endR
      rw [← HN.out.1]
      simp [h8]
end Go.Proofs.Ytgphdigcilbnlaa
