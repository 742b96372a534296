/-
  Texts of this proof, joined: DeltaD, DeltaN, DeltaDec, Begins, DeltaPl, DeltaInts, DeltaOneW, XorTk.
-/
import Derived.Test.YtopbbicjbjmdnaaGreatDoorJ08
import Derived.Test.YtopbbicjbjmdnaaGreatDoorJ02
import Derived.Test.YtopbbicjbjmdnaaGreatDoorJ04
import Derived.Test.YtopbbicjbjmdnaaGreatDoorJ05
namespace Go.Proofs.YtopbbicjbjmdnaaGreatDoor.D
set_option maxRecDepth 100000
open Go.RowKit
set_option linter.unusedVariables false
set_option linter.unusedSimpArgs false
set_option maxRecDepth 100000 in
set_option maxHeartbeats 400000 in
theorem add_any (a b : Int) (w : World) (a0 : -9223372036854775808 ≤ a) (a1 : a ≤ 9223372036854775807) (b0 : -9223372036854775808 ≤ b) (b1 : b ≤ 9223372036854775807) :
    Calls Tryz.prog 87 #[.int .i64 a, .int .i64 b] w fun e w' => e = .returned (.int .i64 (add64 a b)) ∧ w = w' := by
  have H := Lib.hid (And.intro a0 (And.intro a1 (And.intro b0 b1)))
  clear a0 a1 b0 b1
  go_enter Tryz.func87, Tryz.ntmps87
  go_wp2
  go_ret
  refine ⟨ret_int ?_, rfl⟩
  obtain ⟨a0, a1, b0, b1⟩ := H.out
  unfold add64
  unfold wrap64
  simp only [IntKind.wrap_u64]
  omega
/-- The class ahead, i bits of it read, at p: the class, the error, the place behind. -/
def markR (bs : List Nat) (en : Nat) : Nat → Nat → Nat × Int × Nat
  | 0, p => (4, 0, p)
  | f + 1, p => if p < en then (if bitOf bs p = 0 then (4 - (f + 1), 0, p + 1) else markR bs en f (p + 1)) else (0, 10, p)
theorem markR_cls (bs : List Nat) (en f p : Nat) (hf : f ≤ 4) : (markR bs en f p).1 ≤ 4 := by
  induction f generalizing p with
  | zero => exact Nat.le_refl _
  | succ f ih =>
    unfold markR
    split
    · split
      · show 4 - (f + 1) ≤ 4; omega
      · exact ih _ (by omega)
    · exact Nat.zero_le _
theorem markR_le (bs : List Nat) (en f p : Nat) (h : p ≤ en) : (markR bs en f p).2.2 ≤ en := by
  induction f generalizing p with
  | zero => exact h
  | succ f ih =>
    unfold markR
    split
    · split
      · show p + 1 ≤ en; omega
      · exact ih _ (by omega)
    · exact h
theorem gets_one (bs : List Nat) (p : Nat) : gets bs p 1 = bitOf bs p := by simp [gets]
theorem get_one (bs : List Nat) (p en : Nat) (h : p < en) : getV bs p en 1 = bitOf bs p ∧ getE p en 1 = 0 ∧ getN p en 1 = 1 := by
  unfold getV getE getN
  rw [if_pos (by omega), if_pos (by omega), if_pos (by omega), if_pos (by omega)]
  exact ⟨gets_one bs p, rfl, rfl⟩
theorem get_none (bs : List Nat) (p en : Nat) (n : Int) (h : (en : Int) - p < n) (h0 : 0 ≤ n) (h1 : n ≤ 64) : getV bs p en n = 0 ∧ getE p en n = 10 ∧ getN p en n = 0 := by
  unfold getV getE getN
  rw [if_neg (by omega), if_pos (by omega), if_neg (by omega), if_neg (by omega)]
  exact ⟨rfl, rfl, rfl⟩
theorem get_some (bs : List Nat) (p en n : Nat) (h : p + n ≤ en) (h1 : n ≤ 64) : getV bs p en n = gets bs p n ∧ getE p en n = 0 ∧ getN p en n = n := by
  unfold getV getE getN
  rw [if_pos (by omega), if_pos (by omega), if_pos (by omega), if_pos (by omega)]
  exact ⟨rfl, rfl, rfl⟩
def MarkPost (w : World) (r : Nat) (D : Nat → Prop) (bs : List Nat) (en : Nat) (m : Nat × Int × Nat) (e : Ending) (w' : World) : Prop :=
  e = .returned (.tuple #[.int .i64 (m.1 : Nat), .int .i64 m.2.1]) ∧ Rd w' r D bs m.2.2 en ∧ Keeps (fun k => k = r) w w'
set_option maxRecDepth 100000 in
set_option maxHeartbeats 800000 in
theorem mark_any (w : World) (r : Nat) (D : Nat → Prop) (bs : List Nat) (p en : Nat) (h : Rd w r D bs p en) :
    Calls Tryz.prog 99 #[.pointer (some ⟨r, 0, none⟩)] w (MarkPost w r D bs en (markR bs en 4 p)) := by
  have HH := Lib.hid h
  clear h
  go_enter Tryz.func99, Tryz.ntmps99
  go_wp2_with fail
  go_loopw [4] (fun i wr => ∃ k : Nat, k ≤ 4 ∧ i = .int .i64 k ∧ Rd wr r D bs (p + k) en ∧ Keeps (fun k => k = r) w wr ∧ markR bs en 4 p = markR bs en (4 - k) (p + k))
    (fun i _ => 4 - (intOf i).toNat)
  case atStart => exact ⟨0, Nat.zero_le _, rfl, HH.out, Keeps.refl _ _, rfl⟩
  case round =>
    obtain ⟨k, hk, rfl, hrr, hkr, hmr⟩ := hrel
    by_cases hlt : k < 4
    · obtain ⟨f, hf⟩ : ∃ f, 4 - k = f + 1 := ⟨3 - k, by omega⟩
      rw [hf] at hmr
      have HR := Lib.hid (And.intro hrr (And.intro hkr (And.intro hmr hf)))
      clear hrr hkr hmr hf
      go_wp2_with fail
      refine (get_any _ _ _ _ _ _ _ HR.out.1).mono ?_
      rintro e w2 ⟨rfl, hr2, hk2⟩
      by_cases hp : p + k < en
      · obtain ⟨g1, g2, g3⟩ := get_one bs (p + k) en hp
        rw [g3] at hr2
        rw [g1, g2]
        have hb := bitOf_lt bs (p + k)
        obtain ⟨b, hbb⟩ : ∃ b, b = bitOf bs (p + k) := ⟨_, rfl⟩
        rw [← hbb] at hb
        rw [← hbb]
        have H2 := Lib.hid (And.intro hr2 (And.intro (HR.out.2.1.trans' hk2) (And.intro hbb hp)))
        clear hr2 hk2 g1 g2 g3 hbb hp
        rcases (show b = 0 ∨ b = 1 by omega) with rfl | rfl
        · rw [show ((0 : Nat) : Int) = 0 from rfl]
          go_wp2_with fail
          go_ret2
          obtain ⟨h1, h2, h3, h4⟩ := H2.out
          obtain ⟨-, -, m1, m2⟩ := HR.out
          rw [m1]
          unfold markR
          rw [if_pos h4, if_pos h3.symm]
          refine ⟨?_, ?_, h2⟩
          · show _ = Ending.returned (.tuple #[.int .i64 ((4 - (f + 1) : Nat) : Int), .int .i64 0])
            rw [show 4 - (f + 1) = k by omega]
            rfl
          · exact h1
        · rw [show ((1 : Nat) : Int) = 1 from rfl]
          go_wp2_with fail
          go_roundw
          case rel =>
            obtain ⟨h1, h2, h3, h4⟩ := H2.out
            obtain ⟨-, -, m1, m2⟩ := HR.out
            refine ⟨k + 1, by omega, by go_num, h1, h2, ?_⟩
            rw [m1, show 4 - (k + 1) = f by omega]
            show (if p + k < en then _ else _) = _
            rw [if_pos h4, if_neg (by omega)]
            rfl
          case measure => simp [intOf]; omega
      · obtain ⟨g1, g2, g3⟩ := get_none bs (p + k) en 1 (by omega) (by omega) (by omega)
        rw [g3] at hr2
        rw [g1, g2]
        have H2 := Lib.hid (And.intro hr2 (And.intro (HR.out.2.1.trans' hk2) hp))
        clear hr2 hk2 g1 g2 g3 hp
        go_wp2_with fail
        go_ret2
        obtain ⟨h1, h2, h4⟩ := H2.out
        obtain ⟨-, -, m1, m2⟩ := HR.out
        rw [m1]
        unfold markR
        rw [if_neg h4]
        exact ⟨rfl, h1, h2⟩
    · obtain rfl : k = 4 := by omega
      have HR := Lib.hid (And.intro hrr (And.intro hkr hmr))
      clear hrr hkr hmr
      go_wp2_with fail
      go_ret2
      rw [HR.out.2.2]
      exact ⟨rfl, HR.out.1, HR.out.2.1⟩
/-- A step of a step, its class read: it, the error, the place behind. -/
def takeM (bs : List Nat) (en c : Nat) (e : Int) (q : Nat) : Int × Int × Nat :=
  if e = 0 then
    if q + wd c ≤ en then
      if cls (gets bs q (wd c)) = c then (zag (gets bs q (wd c)), 0, q + wd c) else (0, 11, q + wd c)
    else (0, 10, q)
  else (0, e, q)
def takeR (bs : List Nat) (en p : Nat) : Int × Int × Nat := takeM bs en (markR bs en 4 p).1 (markR bs en 4 p).2.1 (markR bs en 4 p).2.2
theorem markR_err (bs : List Nat) (en f p : Nat) : (markR bs en f p).2.1 = 0 ∨ (markR bs en f p).2.1 = 10 := by
  induction f generalizing p with
  | zero => exact .inl rfl
  | succ f ih =>
    unfold markR
    split
    · split
      · exact .inl rfl
      · exact ih _
    · exact .inr rfl
theorem takeR_le (bs : List Nat) (en p : Nat) (h : p ≤ en) : (takeR bs en p).2.2 ≤ en := by
  have := markR_le bs en 4 p h
  unfold takeR takeM
  split
  · split
    · split <;> assumption
    · exact this
  · exact this
theorem gets_64 (bs : List Nat) (p n : Nat) (h : n ≤ 64) : gets bs p n < 18446744073709551616 :=
  Nat.lt_of_lt_of_le (gets_lt bs p n) (Nat.le_trans (Nat.pow_le_pow_right (by omega) h) (by decide))
theorem takeR_range (bs : List Nat) (en p : Nat) : -9223372036854775808 ≤ (takeR bs en p).1 ∧ (takeR bs en p).1 ≤ 9223372036854775807 := by
  unfold takeR takeM
  split
  · split
    · split
      · exact zag_range (gets_64 _ _ _ (wd_le (markR_cls _ _ _ _ (Nat.le_refl _))))
      · exact ⟨by show _ ≤ (0 : Int); omega, by show (0 : Int) ≤ _; omega⟩
    · exact ⟨by show _ ≤ (0 : Int); omega, by show (0 : Int) ≤ _; omega⟩
  · exact ⟨by show _ ≤ (0 : Int); omega, by show (0 : Int) ≤ _; omega⟩
def TakePost (w : World) (r : Nat) (D : Nat → Prop) (bs : List Nat) (en : Nat) (m : Int × Int × Nat) (e : Ending) (w' : World) : Prop :=
  e = .returned (.tuple #[.int .i64 m.1, .int .i64 m.2.1]) ∧ Rd w' r D bs m.2.2 en ∧ Keeps (fun k => k = r) w w'
set_option maxRecDepth 100000 in
set_option maxHeartbeats 800000 in
theorem take_any (w : World) (r : Nat) (D : Nat → Prop) (bs : List Nat) (p en : Nat) (h : Rd w r D bs p en) :
    Calls Tryz.prog 86 #[.pointer (some ⟨r, 0, none⟩)] w (TakePost w r D bs en (takeR bs en p)) := by
  have HH := Lib.hid h
  clear h
  go_enter Tryz.func86, Tryz.ntmps86
  go_wp2_with fail
  refine (mark_any _ _ _ _ _ _ HH.out).mono ?_
  rintro e w1 ⟨rfl, hr1, hk1⟩
  have hc := markR_cls bs en 4 p (Nat.le_refl _)
  have he := markR_err bs en 4 p
  have ht : takeR bs en p = takeM bs en (markR bs en 4 p).1 (markR bs en 4 p).2.1 (markR bs en 4 p).2.2 := rfl
  obtain ⟨m, hm⟩ : ∃ m, m = markR bs en 4 p := ⟨_, rfl⟩
  rw [← hm] at hc he hr1 ht
  rw [← hm]
  clear hm
  obtain ⟨c, e, q⟩ := m
  simp only [] at hc he hr1 ht
  have H1 := Lib.hid (And.intro hr1 (And.intro hk1 ht))
  clear hr1 hk1 ht
  rcases he with rfl | rfl
  · go_wp2_with fail
    refine (widths_any _).mono ?_
    rintro e w2 ⟨rfl, hb2⟩
    have H2 := Lib.hid (And.intro (H1.out.1.below hb2) (H1.out.2.1.trans' (Keeps.of_below hb2)))
    clear hb2
    unfold widthsV
    have ix := fun w => widths_at c (by omega) w
    go_wp2_with fail
    refine (get_any _ _ _ _ _ _ _ H2.out.1).mono ?_
    rintro e w3 ⟨rfl, hr3, hk3⟩
    have hw := wd_le hc
    by_cases hfit : q + wd c ≤ en
    · obtain ⟨g1, g2, g3⟩ := get_some bs q en (wd c) hfit hw
      rw [g3] at hr3
      rw [g1, g2]
      have hz := gets_64 bs q (wd c) hw
      obtain ⟨z, hzz⟩ : ∃ z, z = gets bs q (wd c) := ⟨_, rfl⟩
      rw [← hzz] at hz
      rw [← hzz]
      have H3 := Lib.hid (And.intro hr3 (And.intro (H2.out.2.trans' hk3) (And.intro hzz (And.intro hfit hz))))
      clear hr3 hk3 g1 g2 g3 hzz hfit hz ix hw
      go_wp2_with fail
      refine (classOf_any _ H3.out.2.2.2.2 _).mono ?_
      rintro e w4 ⟨rfl, hb4⟩
      have H4 := Lib.hid (And.intro (H3.out.1.below hb4) (H3.out.2.1.trans' (Keeps.of_below hb4)))
      clear hb4
      by_cases hcl : cls z = c
      · have hne : (((cls z : Nat) : Int) != (c : Int)) = false := by simp [hcl]
        have hne2 : (((cls z : Nat) : Int) == (c : Int)) = true := by simp [hcl]
        have HC := Lib.hid hcl
        clear hcl
        go_wp2_with fail
        refine (zag_any _ _ H3.out.2.2.2.2).mono ?_
        rintro e w5 ⟨rfl, rfl⟩
        go_wp2_with fail
        go_ret2
        obtain ⟨-, -, h3, h4, -⟩ := H3.out
        rw [H1.out.2.2]
        unfold takeM
        rw [if_pos (rfl : (0 : Int) = 0), if_pos h4, ← h3, if_pos HC.out]
        exact ⟨rfl, H4.out.1, H4.out.2⟩
      · have hne : (((cls z : Nat) : Int) != (c : Int)) = true := by simp; omega
        have hne2 : (((cls z : Nat) : Int) == (c : Int)) = false := by simp; omega
        have HC := Lib.hid hcl
        clear hcl
        go_wp2_with fail
        go_ret2
        obtain ⟨-, -, h3, h4, -⟩ := H3.out
        rw [H1.out.2.2]
        unfold takeM
        rw [if_pos (rfl : (0 : Int) = 0), if_pos h4, ← h3, if_neg HC.out]
        exact ⟨rfl, H4.out.1, H4.out.2⟩
    · obtain ⟨g1, g2, g3⟩ := get_none bs q en (wd c) (by omega) (by omega) (by omega)
      rw [g3] at hr3
      rw [g1, g2]
      have H3 := Lib.hid (And.intro hr3 (And.intro (H2.out.2.trans' hk3) hfit))
      clear hr3 hk3 g1 g2 g3 hfit ix hw
      go_wp2_with fail
      go_ret2
      rw [H1.out.2.2]
      unfold takeM
      rw [if_pos (rfl : (0 : Int) = 0), if_neg H3.out.2.2]
      exact ⟨rfl, H3.out.1, H3.out.2.1⟩
  · go_wp2_with fail
    go_ret2
    rw [H1.out.2.2]
    unfold takeM
    rw [if_neg (by omega)]
    exact ⟨rfl, H1.out.1, H1.out.2.1⟩
def endR (bs : List Nat) (en p : Nat) : Bool := decide (en - p < 8) && decide (gets bs p (min (en - p) 64) = 0)
set_option maxRecDepth 100000 in
set_option maxHeartbeats 800000 in
theorem ended_any (w : World) (r : Nat) (D : Nat → Prop) (bs : List Nat) (p en : Nat) (h : Rd w r D bs p en) :
    Calls Tryz.prog 88 #[.pointer (some ⟨r, 0, none⟩)] w fun e w' => e = .returned (.bool (endR bs en p)) ∧ Keeps (fun k => k = r) w w' := by
  have hle := h.le
  have hsm := h.small
  have hen := h.en_le
  have HH := Lib.hid h
  clear h
  obtain ⟨n, hn⟩ : ∃ n : Nat, n = en - p := ⟨_, rfl⟩
  have hni : (en : Int) - p = (n : Int) := by omega
  have hn8 : n ≤ 8796093022208 := by omega
  have HN := Lib.hid (And.intro hn hle)
  clear hn hle hsm hen
  have fin : ∀ b, b = endR bs en p → Ending.returned (.bool b) = .returned (.bool (endR bs en p)) := fun b h => by rw [h]
  have FIN := Lib.hid fin
  clear fin
  go_enter Tryz.func88, Tryz.ntmps88
  go_wp2_with fail
  refine (left_any _ _ _ _ _ _ HH.out).mono ?_
  rintro e w1 ⟨rfl, k1, rfl⟩
  rw [hni]
  clear hni
  by_cases h64 : n < 64
  · have hmi : min (n : Int) 64 = (n : Int) := by omega
    have hd : decide ((64 : Int) < (n : Int)) = false := by simp; omega
    have hd2 : decide ((n : Int) < 64) = true := by simp; omega
    go_wp2_with fail
    refine (get_any _ _ _ _ _ _ _ (HH.out.drewN k1)).mono ?_
    rintro e w2 ⟨rfl, hr2, hk2⟩
    obtain ⟨g1, g2, g3⟩ := get_some bs p en n (by obtain ⟨h1, h2⟩ := HN.out; omega) (by omega)
    have H2 := Lib.hid (Keeps.trans' ((Keeps.refl _ w).drewN k1) hk2)
    have hz := gets_64 bs p n (by omega)
    obtain ⟨z, hzz⟩ : ∃ z, z = gets bs p n := ⟨_, rfl⟩
    rw [← hzz] at hz g1
    rw [g1, g2]
    have H3 := Lib.hid (And.intro hzz hz)
    clear hr2 hk2 g1 g2 g3 hzz hz hmi hd hd2
    have hmn : min n 64 = n := by omega
    have HMN := Lib.hid hmn
    clear hmn
    by_cases h8 : n < 8
    · by_cases h0 : z = 0
      · subst h0
        rw [show ((0 : Nat) : Int) = 0 from rfl]
        go_wp2_with fail
        go_ret
        refine ⟨FIN.out _ ?_, H2.out⟩
        unfold endR
        rw [← HN.out.1, HMN.out, ← H3.out.1]
        simp [h8]
      · have d : ((z : Int) == 0) = false := by simp; omega
        go_wp2_with fail
        go_ret
        refine ⟨FIN.out _ ?_, H2.out⟩
        unfold endR
        rw [← HN.out.1, HMN.out, ← H3.out.1]
        simp [h0]
    · go_wp2_with fail
      go_ret
      refine ⟨FIN.out _ ?_, H2.out⟩
      unfold endR
      rw [← HN.out.1]
      simp [h8]
  · have hmi : min (n : Int) 64 = 64 := by omega
    go_wp2_with fail
    all_goals
      refine (get_any _ _ _ _ _ _ _ (HH.out.drewN k1)).mono ?_
      rintro e w2 ⟨rfl, hr2, hk2⟩
      have H2 := Lib.hid (Keeps.trans' ((Keeps.refl _ w).drewN k1) hk2)
      clear hr2 hk2
      have h8 : ¬ n < 8 := by omega
      have d8 : decide ((n : Int) < 8) = false := by simp; omega
      go_wp2_with fail
      go_ret
      refine ⟨FIN.out _ ?_, H2.out⟩
      unfold endR
      rw [← HN.out.1]
      simp [h8]
end Go.Proofs.YtopbbicjbjmdnaaGreatDoor.D
namespace Go.Proofs.YtopbbicjbjmdnaaGreatDoor.D
set_option maxRecDepth 100000
open Go.RowKit
set_option linter.unusedVariables false
set_option linter.unusedSimpArgs false
def intZ (n : Int) : Value := .int .i64 n
def I64 (n : Int) : Prop := -9223372036854775808 ≤ n ∧ n ≤ 9223372036854775807
def i64of (u : Nat) : Int := if u < 9223372036854775808 then (u : Int) else (u : Int) - 18446744073709551616
theorem i64of_range {u : Nat} (h : u < 18446744073709551616) : I64 (i64of u) := by unfold i64of I64; split <;> omega
theorem wrap64_of {u : Nat} (h : u < 18446744073709551616) : wrap64 (u : Int) = i64of u := by
  unfold i64of
  unfold wrap64
  try simp only [IntKind.wrap_i64]
  split <;> omega
theorem i64wrap_of {u : Nat} (h : u < 18446744073709551616) : IntKind.i64.wrap (u : Int) = i64of u := by
  unfold i64of
  rw [IntKind.wrap_i64]
  split <;> omega
/-- The next time, behind 'out', with the step: it, the error, the step and the place behind. -/
def nextR (bs : List Nat) (en : Nat) (out : List Int) (step : Int) (p : Nat) : Int × Int × Int × Nat :=
  if out.length = 0 then (if p + 64 ≤ en then (i64of (gets bs p 64), 0, step, p + 64) else (0, 10, step, p))
  else (add64 (out.getD (out.length - 1) 0) (add64 step (takeR bs en p).1), (takeR bs en p).2.1, add64 step (takeR bs en p).1, (takeR bs en p).2.2)
def NextPost (w : World) (r : Nat) (D : Nat → Prop) (bs : List Nat) (en gs : Nat) (m : Int × Int × Int × Nat) (e : Ending) (w' : World) : Prop :=
  e = .returned (.tuple #[.int .i64 m.1, .int .i64 m.2.1]) ∧ Rd w' r D bs m.2.2.2 en ∧ Blk w' gs 3 #[.int .i64 m.2.2.1] ∧ Keeps (fun k => k = r ∨ k = gs) w w'
theorem add64_I (a b : Int) : I64 (add64 a b) := by unfold add64 I64; omega
theorem add_same (a b : Int) (w : World) (ha : I64 a) (hb : I64 b) :
    Calls Tryz.prog 87 #[.int .i64 a, .int .i64 b] w fun e w' => e = .returned (.int .i64 (add64 a b)) ∧ w' = w :=
  (add_any a b w ha.1 ha.2 hb.1 hb.2).mono fun _ _ ⟨h, k⟩ => ⟨h, k.symm⟩
theorem row_sl {w : World} {B : Nat} {A : Option Addr} {n c : Nat} {out : List Int} (hn : out.length = n) (h : w.ownsRow B 3 1 (.slice A n c) n (out.map intZ)) : Sl w (fun k => (Value.slice A n c).ownBlock = some k) A n (fun j => .int .i64 (out.getD j 0)) := by
  refine Sl.of_own h ?_
  intro j u hu
  rw [List.getElem?_map] at hu
  cases hj : out[j]? with
  | none => rw [hj] at hu; cases hu
  | some x => rw [hj] at hu; injection hu with hu; rw [List.getD_eq_getElem?_getD, hj]; exact hu.symm
set_option maxRecDepth 100000 in
set_option maxHeartbeats 1600000 in
theorem next_first (w : World) (r : Nat) (D : Nat → Prop) (bs : List Nat) (p en B go gr gs : Nat) (v : Value) (step : Int)
    (h : Rd w r D bs p en) (hr : Blk w gr 163 #[.pointer (some ⟨r, 0, none⟩)]) (ho : Blk w go 89 #[v]) (hs : Blk w gs 3 #[.int .i64 step]) (hrow : w.ownsRow B 3 1 v 0 []) :
    Calls Tryz.prog 84 #[.pointer (some ⟨go, 0, none⟩), .pointer (some ⟨gr, 0, none⟩), .pointer (some ⟨gs, 0, none⟩)] w (NextPost w r D bs en gs (nextR bs en [] step p)) := by
  obtain ⟨A, c, rfl, -, -⟩ := own_form hrow
  have c1 := hr.cell 0
  have c2 := ho.cell 0
  simp at c1 c2
  have HH := Lib.hid (And.intro h hs)
  clear h hr ho hs hrow
  have d0 : (((0 : Nat) : Int) == 0) = true := rfl
  go_enter Tryz.func84, Tryz.ntmps84
  go_wp2_with fail
  refine (get_any _ _ _ _ _ _ _ HH.out.1).mono ?_
  rintro e w1 ⟨rfl, hr1, hk1⟩
  clear c1 c2
  have hne : gs ≠ r := by
    obtain ⟨A', c', hb, -⟩ := HH.out.1.blk
    exact fun e => (hb.ne HH.out.2 (by decide)) e.symm
  by_cases hfit : p + 64 ≤ en
  · obtain ⟨g1, g2, g3⟩ := get_some bs p en 64 hfit (by omega)
    have hz := gets_64 bs p 64 (by omega)
    rw [show (64 : Int) = ((64 : Nat) : Int) from rfl, g3] at hr1
    rw [show (64 : Int) = ((64 : Nat) : Int) from rfl, g1, g2]
    obtain ⟨z, hzz⟩ : ∃ z, z = gets bs p 64 := ⟨_, rfl⟩
    rw [← hzz] at hz
    rw [← hzz]
    have H1 := Lib.hid (And.intro hr1 (And.intro hk1 (And.intro hzz (And.intro hz (And.intro hfit hne)))))
    clear hr1 hk1 hzz g1 g2 g3 hfit hne hz
    go_wp2_with fail
    go_ret2
    obtain ⟨h1, h2, h3, h4, h5, h6⟩ := H1.out
    unfold nextR
    rw [if_pos (by rfl), if_pos h5, ← h3]
    refine ⟨?_, h1, HH.out.2.keeps h2 h6, h2.mono fun _ _ h => .inl h⟩
    first
    | (rw [wrap64_of h4]; rfl)
    | (rw [i64wrap_of h4]; rfl)
  · obtain ⟨g1, g2, g3⟩ := get_none bs p en 64 (by omega) (by omega) (by omega)
    rw [g3] at hr1
    rw [g1, g2]
    have H1 := Lib.hid (And.intro hr1 (And.intro hk1 (And.intro hfit hne)))
    clear hr1 hk1 g1 g2 g3 hfit hne
    go_wp2_with fail
    go_ret2
    obtain ⟨h1, h2, h5, h6⟩ := H1.out
    unfold nextR
    rw [if_pos (by rfl), if_neg h5]
    exact ⟨rfl, h1, HH.out.2.keeps h2 h6, h2.mono fun _ _ h => .inl h⟩
set_option maxRecDepth 100000 in
set_option maxHeartbeats 1600000 in
theorem next_more (w : World) (r : Nat) (D : Nat → Prop) (bs : List Nat) (p en B go gr gs m : Nat) (v : Value) (out : List Int) (step : Int)
    (h : Rd w r D bs p en) (hr : Blk w gr 163 #[.pointer (some ⟨r, 0, none⟩)]) (ho : Blk w go 89 #[v]) (hs : Blk w gs 3 #[.int .i64 step]) (hn : out.length = m + 1) (hrow : w.ownsRow B 3 1 v (m + 1) (out.map intZ))
    (hB : gs < B) (hout : ∀ j, I64 (out.getD j 0)) (hst : I64 step) (hD : ¬ D gs) (hm : m ≤ 4096) :
    Calls Tryz.prog 84 #[.pointer (some ⟨go, 0, none⟩), .pointer (some ⟨gr, 0, none⟩), .pointer (some ⟨gs, 0, none⟩)] w (NextPost w r D bs en gs (nextR bs en out step p)) := by
  obtain ⟨A, c, rfl, -, -⟩ := own_form hrow
  obtain ⟨A', c', hbr, -⟩ := h.blk
  have n1 : gs ≠ r := fun e => (hbr.ne hs (by decide)) e.symm
  have n2 : go ≠ r := fun e => (hbr.ne ho (by decide)) e.symm
  have n3 : gs ≠ go := fun e => (hs.ne ho (by decide)) e
  have n4 : ∀ g, (Value.slice A (m + 1) c).ownBlock = some g → g ≠ r := fun g hg e => own_ne hrow hbr (by decide) (by rw [hg, e])
  have n5 : ∀ g, (Value.slice A (m + 1) c).ownBlock = some g → B ≤ g := fun g hg => (hrow.lt g hg).1
  have c1 := hr.cell 0
  have c2 := ho.cell 0
  simp at c1 c2
  have c2' : w.cell? ⟨go, 0, none⟩ = some (.slice A (m + 1) c) := c2
  have HH := Lib.hid (And.intro h (And.intro hs (And.intro ho (And.intro hrow (And.intro hn (And.intro hout (And.intro hst (And.intro n1 (And.intro n2 (And.intro n3 (And.intro n4 (And.intro n5 hD))))))))))))
  clear h hr ho hs hrow hn hout hst n1 n2 n3 n4 n5 hD hbr
  have d0 : (((m : Int) + 1) == 0) = false := by simp; omega
  go_enter Tryz.func84, Tryz.ntmps84
  go_wp2_with fail
  refine (take_any _ _ _ _ _ _ HH.out.1).mono ?_
  rintro e w1 ⟨rfl, hr1, hk1⟩
  obtain ⟨t, ht⟩ : ∃ t, t = takeR bs en p := ⟨_, rfl⟩
  have htr := takeR_range bs en p
  rw [← ht] at hr1 htr
  rw [← ht]
  obtain ⟨d, er, q⟩ := t
  simp only [] at hr1 htr
  obtain ⟨h, hs, ho, hrow, hn, hout, hst, n1, n2, n3, n4, n5, hD⟩ := HH.out
  have hs1 := hs.keeps hk1 n1
  have ho1 := ho.keeps hk1 n2
  have hrow1 := own_keeps hrow hk1 n4
  have cs1 := hs1.cell 0
  have fs1 := hs1.frozen 0
  simp at cs1 fs1
  have H1 := Lib.hid (And.intro hr1 (And.intro hk1 (And.intro ht (And.intro htr (And.intro hs1 (And.intro ho1 hrow1))))))
  clear h hs ho hrow hn hout hst n1 n2 n3 n4 n5 hD hr1 hk1 ht htr hs1 ho1 hrow1 c1 c2 c2' d0
  go_wp2_with fail
  refine (add_any _ _ _ HH.out.2.2.2.2.2.2.1.1 HH.out.2.2.2.2.2.2.1.2 H1.out.2.2.2.1.1 H1.out.2.2.2.1.2).mono ?_
  rintro e w2 ⟨rfl, rfl⟩
  obtain ⟨s2, hs2⟩ : ∃ s2, s2 = add64 step d := ⟨_, rfl⟩
  have hs2r := add64_I step d
  rw [← hs2] at hs2r
  rw [← hs2]
  have HS2 := Lib.hid (And.intro hs2 hs2r)
  clear hs2 hs2r
  go_wp2_with fail
  obtain ⟨h, hs, ho, hrow, hn, hout, hst, n1, n2, n3, n4, n5, hD⟩ := HH.out
  obtain ⟨hr1, hk1, ht, htr, hs1, ho1, hrow1⟩ := H1.out
  obtain ⟨w3, hw3⟩ : ∃ w3, w3 = w1.setCell ⟨gs, 0, none⟩ (.int .i64 s2) := ⟨_, rfl⟩
  rw [← hw3]
  have k3 : Keeps (fun k => k = gs) w1 w3 := by rw [hw3]; exact (Keeps.refl (fun k => k = gs) w1).setCell (p := ⟨gs, 0, none⟩) (fun _ => rfl) _
  have hs3 : Blk w3 gs 3 #[.int .i64 s2] := by rw [hw3]; simpa using hs1.set 0 (.int .i64 s2)
  have ho3 := ho1.keeps k3 (fun e => n3 e.symm)
  have hrow3 := own_keeps hrow1 k3 (fun g hg e => by have := n5 g hg; omega)
  have hr3 : Rd w3 r D bs q en := hr1.keeps k3 (fun e => n1 e.symm) (fun k hk e => hD (e ▸ hk))
  obtain ⟨b, off, hA, -, hcell⟩ := row_sl hn hrow3 (by omega)
  subst hA
  have cl : w3.cell? ⟨b, off + m, none⟩ = some (.int .i64 (out.getD m 0)) := hcell m (by omega)
  have c3s := hs3.cell 0
  have c3o := ho3.cell 0
  simp at c3s c3o
  have hlr := hout m
  obtain ⟨la, hla⟩ : ∃ la, la = out.getD m 0 := ⟨_, rfl⟩
  rw [← hla] at hlr cl
  have H3 := Lib.hid (And.intro hr3 (And.intro hs3 (And.intro k3 (And.intro hla (And.intro hlr hn)))))
  clear h hs ho hrow hn hout hst n1 n2 n3 n4 n5 hD hr1 hk1 ht htr hs1 ho1 hrow1 hw3 k3 hs3 ho3 hrow3 hr3 hcell hla hlr cs1 fs1
  have ejw : IntKind.i64.wrap ((m : Int) + 1 - 1) = (m : Int) := by rw [IntWalk.i64_in _ (by omega)]; omega
  have ejw2 : (m : Int) + 1 - 1 = (m : Int) := by omega
  have ejw3 : IntKind.i64.wrap (m : Int) = (m : Int) := IntWalk.i64_in _ (by omega)
  have ejw4 : ((m : Int)).toNat = m := by omega
  have hj2 : (0 : Int) ≤ (m : Int) := by omega
  have hj3 : (m : Int) < (m : Int) + 1 := by omega
  go_quiet ((go_at_call 87; exact Calls.quiet_of_same (add_same _ _ _ H3.out.2.2.2.2.1 HS2.out.2)))
  clear ejw ejw2 ejw3 ejw4
  go_wp2_with fail
  go_ret2
  obtain ⟨hr1, hk1, ht, htr, hs1, ho1, hrow1⟩ := H1.out
  obtain ⟨hr3, hs3, k3, hla, hlr, hn⟩ := H3.out
  unfold nextR
  rw [if_neg (by omega), ← ht, show out.length - 1 = m by omega, ← hla]
  refine ⟨?_, hr3.drewN _, ?_, ?_⟩
  · rw [HS2.out.1]; rfl
  · rw [← HS2.out.1]; exact hs3.drewN _
  · exact ((hk1.mono fun _ _ h => .inl h).trans' (k3.mono fun _ _ h => .inr h)).drewN _
end Go.Proofs.YtopbbicjbjmdnaaGreatDoor.D
namespace Go.Proofs.YtopbbicjbjmdnaaGreatDoor.D
set_option maxRecDepth 100000
open Go.RowKit
set_option linter.unusedVariables false
set_option linter.unusedSimpArgs false
/-- n times more behind 'out': the times, the error, the place behind. -/
def decR (bs : List Nat) (en : Nat) : Nat → List Int → Int → Nat → List Int × Int × Nat
  | 0, out, _, p => (out, 0, p)
  | n + 1, out, step, p => if (nextR bs en out step p).2.1 = 0 then decR bs en n (out ++ [(nextR bs en out step p).1]) (nextR bs en out step p).2.2.1 (nextR bs en out step p).2.2.2 else ([], (nextR bs en out step p).2.1, p)
def decM (bs : List Nat) (en : Nat) (d : List Int × Int × Nat) : List Int × Int :=
  if d.2.1 = 0 then (if endR bs en d.2.2 then (d.1, 0) else ([], 11)) else ([], d.2.1)
def decL (bs : List Nat) (n : Nat) : List Int × Int := decM bs (8 * bs.length) (decR bs (8 * bs.length) n [] 0 0)
def DecPost (w : World) (l : List Int × Int) (e : Ending) (w' : World) : Prop :=
  ∃ A c, e = .returned (.tuple #[.slice A l.1.length c, .int .i64 l.2]) ∧ w'.ownsRow w.heap.size 3 1 (.slice A l.1.length c) l.1.length (l.1.map intZ) ∧ Keeps (fun _ => False) w w'
theorem nextR_range (bs : List Nat) (en : Nat) (out : List Int) (step : Int) (p : Nat) (hs : I64 step) : I64 (nextR bs en out step p).1 ∧ I64 (nextR bs en out step p).2.2.1 := by
  unfold nextR
  split
  · split
    · exact ⟨i64of_range (gets_64 _ _ _ (by omega)), hs⟩
    · exact ⟨⟨by show _ ≤ (0 : Int); omega, by show (0 : Int) ≤ _; omega⟩, hs⟩
  · exact ⟨add64_I _ _, add64_I _ _⟩
theorem getD_I {l : List Int} {x : Int} (h : ∀ j, I64 (l.getD j 0)) (hx : I64 x) : ∀ j, I64 ((l ++ [x]).getD j 0) := by
  intro j
  rw [List.getD_eq_getElem?_getD]
  rcases Nat.lt_trichotomy j l.length with hj | hj | hj
  · rw [List.getElem?_append_left hj, ← List.getD_eq_getElem?_getD]; exact h j
  · subst hj; simpa using hx
  · rw [List.getElem?_eq_none (by simp; omega)]; exact ⟨by show _ ≤ (0 : Int); omega, by show (0 : Int) ≤ _; omega⟩
structure DSt (w wr : World) (r : Nat) (D : Nat → Prop) (bs : List Nat) (en x : Nat) (out : List Int) (step : Int) (p : Nat) (v : Value) : Prop where
  rd : Rd wr r D bs p en
  br : Blk wr x 163 #[.pointer (some ⟨r, 0, none⟩)]
  bo : Blk wr (x + 1) 89 #[v]
  bs : Blk wr (x + 2) 3 #[.int .i64 step]
  row : wr.ownsRow (x + 3) 3 1 v out.length (out.map intZ)
  keep : Keeps (fun _ => False) w wr
  ints : ∀ j, I64 (out.getD j 0)
  st : I64 step
  old : w.heap.size ≤ r ∧ r < x
  dlt : ∀ k, D k → k < x
theorem next_any {w wr : World} {r : Nat} {D : Nat → Prop} {bs : List Nat} {en x : Nat} {out : List Int} {step : Int} {p : Nat} {v : Value} (h : DSt w wr r D bs en x out step p v) (hl : out.length ≤ 4096) :
    Calls Tryz.prog 84 #[.pointer (some ⟨x + 1, 0, none⟩), .pointer (some ⟨x, 0, none⟩), .pointer (some ⟨x + 2, 0, none⟩)] wr (NextPost wr r D bs en (x + 2) (nextR bs en out step p)) := by
  obtain ⟨h1, h2, h3, h4, h5, h6, h7, h8, h9, h10⟩ := h
  cases out with
  | nil => exact next_first wr r D bs p en (x + 3) (x + 1) x (x + 2) v step h1 h2 h3 h4 h5
  | cons a l => exact next_more wr r D bs p en (x + 3) (x + 1) x (x + 2) l.length v (a :: l) step h1 h2 h3 h4 rfl h5 (by omega) h7 h8 (fun hk => by have := h10 _ hk; omega) (by simp at hl; omega)
theorem DSt.next {w wr w' : World} {r : Nat} {D : Nat → Prop} {bs : List Nat} {en x : Nat} {out : List Int} {step : Int} {p : Nat} {v : Value} {s' : Int} {p' : Nat} (h : DSt w wr r D bs en x out step p v)
    (hr : Rd w' r D bs p' en) (hs : Blk w' (x + 2) 3 #[.int .i64 s']) (hk : Keeps (fun k => k = r ∨ k = x + 2) wr w') (hs' : I64 s') : DSt w w' r D bs en x out s' p' v := by
  obtain ⟨h1, h2, h3, h4, h5, h6, h7, h8, h9, h10⟩ := h
  refine ⟨hr, h2.keeps hk (by omega), h3.keeps hk (by omega), hs, own_keeps h5 hk (fun g hg => ?_), h6.trans hk (fun y hy e => by omega), h7, hs', h9, h10⟩
  have := (h5.lt g hg).1
  omega
theorem takeR_err (bs : List Nat) (en p : Nat) : (takeR bs en p).2.1 = 0 ∨ (takeR bs en p).2.1 = 10 ∨ (takeR bs en p).2.1 = 11 := by
  unfold takeR takeM
  split
  · split
    · split
      · exact .inl rfl
      · exact .inr (.inr rfl)
    · exact .inr (.inl rfl)
  · rcases markR_err bs en 4 p with h | h
    · exact .inl h
    · exact .inr (.inl h)
theorem nextR_err (bs : List Nat) (en : Nat) (out : List Int) (step : Int) (p : Nat) : (nextR bs en out step p).2.1 = 0 ∨ (nextR bs en out step p).2.1 = 10 ∨ (nextR bs en out step p).2.1 = 11 := by
  unfold nextR
  split
  · split
    · exact .inl rfl
    · exact .inr (.inl rfl)
  · exact takeR_err _ _ _
set_option maxHeartbeats 400000 in
theorem decode_arg (w : World) (A : Option Addr) (len c : Nat) (n : Int) (hn : n < 0) :
    Calls Tryz.prog 68 #[.slice A len c, .int .i64 n] w (DecPost w ([], 2)) := by
  go_enter Tryz.func68, Tryz.ntmps68
  go_wp2
  go_ret2
  exact ⟨none, 0, rfl, ⟨rfl, .inl ⟨rfl, rfl⟩⟩, Keeps.refl _ _⟩
set_option maxHeartbeats 400000 in
theorem decode_big (w : World) (A : Option Addr) (len c : Nat) (n : Int) (hn : 4096 < n) :
    Calls Tryz.prog 68 #[.slice A len c, .int .i64 n] w (DecPost w ([], 3)) := by
  have h0 : ¬ n < 0 := by omega
  go_enter Tryz.func68, Tryz.ntmps68
  go_wp2
  go_ret2
  exact ⟨none, 0, rfl, ⟨rfl, .inl ⟨rfl, rfl⟩⟩, Keeps.refl _ _⟩
set_option maxRecDepth 100000 in
set_option maxHeartbeats 1600000 in
theorem decode_ok (w : World) (A : Option Addr) (len c : Nat) (D0 : Nat → Prop) (bs : List Nat) (n : Nat) (hl : bs.length = len) (hsl : Sl w D0 A len (byteC bs)) (hbyte : ∀ j, bs.getD j 0 < 256) (hsm : len ≤ 1048576) (hn : n ≤ 4096) :
    Calls Tryz.prog 68 #[.slice A len c, .int .i64 n] w (DecPost w (decL bs n)) := by
  have HS := Lib.hid (And.intro hsl (And.intro hbyte hl))
  clear hsl hbyte hl
  have d1 : decide ((n : Int) < 0) = false := by simp
  have d2 : decide ((4096 : Int) < n) = false := by simp; omega
  go_enter Tryz.func68, Tryz.ntmps68
  go_wp2_with fail
  refine (newReader_fit _ _ _ _ _ bs _ HS.out.2.2 HS.out.1 HS.out.2.1 (by omega) (by omega) (by omega)).mono ?_
  rintro e w1 ⟨r, rfl, hlr, hr1, hk1⟩
  clear d1 d2
  obtain ⟨en, hen⟩ : ∃ en, en = (8 * (len : Int)).toNat := ⟨_, rfl⟩
  rw [← hen] at hr1
  have hrlt : r < w1.heap.size := by obtain ⟨A', c', hb, -⟩ := hr1.blk; exact hb.lt
  have H1 := Lib.hid (And.intro hr1 (And.intro hk1 (And.intro hlr (And.intro hrlt hen))))
  clear hr1 hk1 hlr hrlt hen
  go_wp2_with fail
  obtain ⟨x, hx⟩ : ∃ x, x = w1.heap.size := ⟨_, rfl⟩
  obtain ⟨D, hD⟩ : ∃ D : Nat → Prop, D = fun k => w.heap.size ≤ k ∧ k < r := ⟨_, rfl⟩
  have hst : DSt w (((w1.alloc (.cells #[.pointer (some ⟨r, 0, none⟩)] 163)).alloc (.cells #[.slice none 0 0] 89)).alloc (.cells #[.int .i64 0] 3)) r D bs en x [] 0 0 (.slice none 0 0) := by
    obtain ⟨hr1, hk1, hlr, hrlt, hen⟩ := H1.out
    subst hx
    subst hD
    refine ⟨hr1.keeps (S := fun _ => False) ((((Keeps.refl _ w1).alloc _).alloc _).alloc _) (fun h => h) (fun _ _ h => h), ((Blk.fresh w1 _ _).alloc _).alloc _, ?_, ?_, ⟨rfl, .inl ⟨rfl, rfl⟩⟩, ((hk1.alloc _).alloc _).alloc _, fun j => ?_, ⟨by omega, by omega⟩, ⟨hlr, hrlt⟩, fun k hk => by omega⟩
    · have := (Blk.fresh (w1.alloc (.cells #[.pointer (some ⟨r, 0, none⟩)] 163)) 89 #[.slice none 0 0]).alloc (.cells #[.int .i64 0] 3)
      simpa using this
    · have := (Blk.fresh ((w1.alloc (.cells #[.pointer (some ⟨r, 0, none⟩)] 163)).alloc (.cells #[.slice none 0 0] 89)) 3 #[.int .i64 0])
      simpa using this
    · exact ⟨by simp, by simp⟩
  have H2 := Lib.hid hst
  rw [← hx]
  clear hst hD hx
  go_loopw [29] (fun i wr => ∃ (k : Nat) (out : List Int) (step : Int) (p : Nat) (v : Value), k ≤ n ∧ i = .int .i64 k ∧ DSt w wr r D bs en x out step p v ∧ out.length = k ∧ decR bs en n [] 0 0 = decR bs en (n - k) out step p)
    (fun i _ => n - (intOf i).toNat)
  case atStart => exact ⟨0, [], 0, 0, .slice none 0 0, Nat.zero_le _, rfl, H2.out, rfl, rfl⟩
  case round =>
    obtain ⟨k, out, step, p, v, hk, rfl, hst, hlen, hdec⟩ := hrel
    by_cases hlt : k < n
    · obtain ⟨f, hf⟩ : ∃ f, n - k = f + 1 := ⟨n - k - 1, by omega⟩
      rw [hf] at hdec
      have HR := Lib.hid (And.intro hst (And.intro hlen (And.intro hdec hf)))
      clear hst hlen hdec hf
      go_wp2_with fail
      refine (next_any HR.out.1 (by rw [HR.out.2.1]; omega)).mono ?_
      rintro e w2 ⟨rfl, hr2, hs2, hk2⟩
      have hrg := nextR_range bs en out step p HR.out.1.st
      have her := nextR_err bs en out step p
      have hd2 : decR bs en (f + 1) out step p = if (nextR bs en out step p).2.1 = 0 then decR bs en f (out ++ [(nextR bs en out step p).1]) (nextR bs en out step p).2.2.1 (nextR bs en out step p).2.2.2 else ([], (nextR bs en out step p).2.1, p) := rfl
      obtain ⟨q, hq⟩ : ∃ q, q = nextR bs en out step p := ⟨_, rfl⟩
      rw [← hq] at hr2 hs2 hrg her hd2
      rw [← hq]
      obtain ⟨t, er, s', p'⟩ := q
      simp only [] at hr2 hs2 hrg her hd2
      have hst2 := HR.out.1.next hr2 hs2 hk2 hrg.2
      have hfin : ∀ z : Int, (z = 10 ∨ z = 11) → z = er → ∃ A c, Ending.returned (.tuple #[.slice none 0 0, .int .i64 z]) = .returned (.tuple #[.slice A (decL bs n).1.length c, .int .i64 (decL bs n).2]) ∧ w2.ownsRow w.heap.size 3 1 (.slice A (decL bs n).1.length c) (decL bs n).1.length ((decL bs n).1.map intZ) ∧ Keeps (fun _ => False) w w2 := by
        intro z hz e
        have hne : er ≠ 0 := by omega
        rw [if_neg hne] at hd2
        have hen : en = 8 * bs.length := by have := H1.out.2.2.2.2; have := HS.out.2.2; omega
        have : decL bs n = ([], er) := by
          unfold decL
          rw [← hen, HR.out.2.2.1, hd2]
          show (if er = 0 then _ else _) = _
          rw [if_neg hne]
        rw [this, e]
        exact ⟨none, 0, rfl, ⟨rfl, .inl ⟨rfl, rfl⟩⟩, hst2.keep⟩
      have HF := Lib.hid hfin
      have H3 := Lib.hid (And.intro hst2 (And.intro hrg (And.intro hd2 hq)))
      clear hr2 hs2 hk2 hrg hd2 hq hst2 hfin
      rcases her with rfl | rfl | rfl
      · have c3o := H3.out.1.bo.cell 0
        simp at c3o
        obtain ⟨A3, c3, hv3, -, -⟩ := own_form H3.out.1.row
        have HV3 := Lib.hid hv3
        clear hv3
        go_wp2_with (at_builtin; refine wpList_append_sl (f := fun _ => .int .i64 t) (D := fun k => k = w2.heap.size) (base := x + 3) (n := out.length) (xs := out.map intZ) intElem rfl (.tmp 39) (.tmp 41) rfl rfl rfl ?hown ?hsl ?h1 ?h63 ?hby ?hbase ?_)
        case hown => exact H3.out.1.row.alloc _
        case hsl => exact sl_one _ _ _
        case h1 => intro j _; rfl
        case h63 => unfold maxLen; have := HR.out.2.1; omega
        case hby => have := HR.out.2.1; omega
        case hbase => have := H3.out.1.bs.lt; simp; omega
        intro v4 w4 hown4 hg4 hat4
        obtain ⟨A4, c4', hv4, -, -⟩ := own_form hown4
        subst hv4
        have hk4 : Keeps (fun k => v.ownBlock = some k) w2 w4 := ((Keeps.refl _ w2).alloc _).grown hg4 (fun q hq _ => hq)
        have hvb : ∀ g, v.ownBlock = some g → x + 3 ≤ g := fun g hg => (H3.out.1.row.lt g hg).1
        have hbo4 := H3.out.1.bo.keeps hk4 (fun e => by have := hvb _ e; omega)
        have hbs4 := H3.out.1.bs.keeps hk4 (fun e => by have := hvb _ e; omega)
        have hbr4 := H3.out.1.br.keeps hk4 (fun e => by have := hvb _ e; omega)
        have hrd4 := H3.out.1.rd.keeps hk4 (fun e => by have := hvb _ e; have := H3.out.1.old; omega) (fun k hk e => by have := hvb _ e; have := H3.out.1.dlt k hk; omega)
        have hkk4 : Keeps (fun _ => False) w w4 := H3.out.1.keep.trans hk4 (fun y hy e => by have := hvb _ e; have := H3.out.1.old; omega)
        have c4 := hbo4.cell 0
        have f4 := hbo4.frozen 0
        simp at c4 f4
        have H4 := Lib.hid (And.intro hown4 (And.intro hbo4 (And.intro hbs4 (And.intro hbr4 (And.intro hrd4 hkk4)))))
        clear hown4 hg4 hat4 hk4 hvb hbo4 hbs4 hbr4 hrd4 hkk4
        go_wp2_with fail
        go_roundw
        case rel =>
          obtain ⟨hown4, hbo4, hbs4, hbr4, hrd4, hkk4⟩ := H4.out
          obtain ⟨hst2, hrg, hd2, hq⟩ := H3.out
          have k5 : Keeps (fun k => k = x + 1) w4 (w4.setCell ⟨x + 1, 0, none⟩ (.slice A4 (out.length + 1) c4')) := (Keeps.refl (fun k => k = x + 1) w4).setCell (p := ⟨x + 1, 0, none⟩) (fun _ => rfl) _
          refine ⟨k + 1, out ++ [t], s', p', .slice A4 (out.length + 1) c4', by omega, by go_num, ⟨?_, ?_, ?_, ?_, ?_, ?_, ?_, hrg.2, hst2.old, hst2.dlt⟩, by simp [HR.out.2.1], ?_⟩
          · exact hrd4.keeps k5 (fun e => by have := hst2.old; omega) (fun k hk e => by have := hst2.dlt k hk; omega)
          · exact hbr4.keeps k5 (by omega)
          · simpa using hbo4.set 0 (.slice A4 (out.length + 1) c4')
          · exact hbs4.keeps k5 (by omega)
          · have h := own_keeps hown4 k5 (fun g hg e => by have := (hown4.lt g hg).1; omega)
            rw [List.length_append, List.map_append]
            exact h
          · exact hkk4.trans k5 (fun y hy e => by have := hst2.old; omega)
          · exact getD_I hst2.ints hrg.1
          · rw [HR.out.2.2.1, hd2, show n - (k + 1) = f by have := HR.out.2.2.2; omega]; exact if_pos (by trivial)
        case measure => simp [intOf]; omega
      · go_wp2_with fail
        go_ret2
        exact HF.out 10 (.inl rfl) rfl
      · go_wp2_with fail
        go_ret2
        exact HF.out 11 (.inr rfl) rfl
    · obtain rfl : k = n := by omega
      rw [Nat.sub_self] at hdec
      have c3 := hst.br.cell 0
      simp at c3
      have HR := Lib.hid (And.intro hst (And.intro hlen hdec))
      clear hst hlen hdec
      go_wp2_with fail
      refine (ended_any _ _ _ _ _ _ HR.out.1.rd).mono ?_
      rintro e w2 ⟨rfl, hk2⟩
      have hbo2 := HR.out.1.bo.keeps hk2 (fun e => by have := HR.out.1.old; omega)
      have hro2 := own_keeps HR.out.1.row hk2 (fun g hg e => by have := (HR.out.1.row.lt g hg).1; have := HR.out.1.old; omega)
      have hkk2 : Keeps (fun _ => False) w w2 := HR.out.1.keep.trans hk2 (fun y hy e => by have := HR.out.1.old; omega)
      have hen : en = 8 * bs.length := by have := H1.out.2.2.2.2; have := HS.out.2.2; omega
      have hd : decL bs k = if endR bs en p then (out, 0) else ([], 11) := by
        unfold decL
        rw [← hen, HR.out.2.2]
        rfl
      have c4 := hbo2.cell 0
      simp at c4
      obtain ⟨A3, c3', hv3, -, -⟩ := own_form hro2
      rw [hv3] at hro2 c4
      have H2' := Lib.hid (And.intro hro2 (And.intro hkk2 (And.intro hd hen)))
      clear hbo2 hro2 hkk2 hk2 hd hen hv3
      obtain ⟨b, hb⟩ : ∃ b, b = endR bs en p := ⟨_, rfl⟩
      rw [← hb]
      have HB := Lib.hid hb
      clear hb
      cases b
      · go_wp2_with fail
        go_ret2
        obtain ⟨h1, h2, h3, h4⟩ := H2'.out
        rw [← HB.out] at h3
        rw [h3]
        exact ⟨none, 0, rfl, ⟨rfl, .inl ⟨rfl, rfl⟩⟩, h2⟩
      · go_wp2_with fail
        go_ret2
        obtain ⟨h1, h2, h3, h4⟩ := H2'.out
        rw [← HB.out] at h3
        rw [h3]
        exact ⟨A3, c3', rfl, own_base h1 (by have := HR.out.1.old; omega), h2⟩
end Go.Proofs.YtopbbicjbjmdnaaGreatDoor.D
namespace Go.Proofs.YtopbbicjbjmdnaaGreatDoor
theorem gets_bit (bs : List Nat) (p n j : Nat) (h : j < n) : gets bs p n / 2 ^ (n - 1 - j) % 2 = bitOf bs (p + j) := by
  induction n with
  | zero => omega
  | succ n ih =>
    have hb := bitOf_lt bs (p + n)
    rcases Nat.lt_or_ge j n with hj | hj
    · rw [show n + 1 - 1 - j = (n - 1 - j) + 1 by omega, Nat.pow_succ, Nat.mul_comm, ← Nat.div_div_eq_div_mul, gets]
      rw [show (2 * gets bs p n + bitOf bs (p + n)) / 2 = gets bs p n by omega]
      exact ih hj
    · obtain rfl : j = n := by omega
      rw [show j + 1 - 1 - j = 0 by omega, gets]
      simp only [Nat.pow_zero, Nat.div_one]
      omega
theorem byte_ext {x y : Nat} (hx : x < 256) (hy : y < 256) (h : ∀ r, r < 8 → x / 2 ^ (7 - r) % 2 = y / 2 ^ (7 - r) % 2) : x = y := by
  have h0 := h 0 (by omega)
  have h1 := h 1 (by omega)
  have h2 := h 2 (by omega)
  have h3 := h 3 (by omega)
  have h4 := h 4 (by omega)
  have h5 := h 5 (by omega)
  have h6 := h 6 (by omega)
  have h7 := h 7 (by omega)
  simp at h0 h1 h2 h3 h4 h5 h6 h7
  omega
theorem bytes_ext {a b : List Nat} (hl : a.length = b.length) (ha : ∀ j, a.getD j 0 < 256) (hb : ∀ j, b.getD j 0 < 256) (h : ∀ i, i < 8 * a.length → bitOf a i = bitOf b i) : a = b := by
  apply List.ext_getElem hl
  intro i h1 h2
  have e : a.getD i 0 = b.getD i 0 := by
    refine byte_ext (ha i) (hb i) fun r hr => ?_
    have := h (8 * i + r) (by omega)
    unfold bitOf at this
    rw [show (8 * i + r) / 8 = i by omega, show (8 * i + r) % 8 = r by omega] at this
    exact this
  rw [List.getD_eq_getElem?_getD, List.getD_eq_getElem?_getD, List.getElem?_eq_getElem h1, List.getElem?_eq_getElem h2] at e
  exact e
/-- The bytes' first bits are L. -/
structure Begins (bs L : List Nat) : Prop where
  le : L.length ≤ 8 * bs.length
  eq : ∀ i, i < L.length → bitOf bs i = L.getD i 0
namespace Begins
variable {bs L M : List Nat} {n v : Nat}
theorem nil (bs : List Nat) : Begins bs [] := ⟨Nat.zero_le _, fun i h => absurd h (by simp)⟩
theorem put (h : Begins bs L) (hn : L.length + n ≤ 8 * bs.length) (hv : gets bs L.length n = v) : Begins bs (L ++ bitsTo v n n) := by
  refine ⟨by rw [List.length_append, bitsTo_length]; exact hn, fun i hi => ?_⟩
  rw [List.length_append, bitsTo_length] at hi
  rcases Nat.lt_or_ge i L.length with hl | hl
  · rw [getD_append_left _ _ _ hl]; exact h.eq i hl
  · obtain ⟨j, rfl⟩ : ∃ j, i = L.length + j := ⟨i - L.length, by omega⟩
    rw [getD_append_right, bitsTo_getD _ _ _ _ (by omega), ← hv, gets_bit _ _ _ _ (by omega)]
theorem pre (h : Begins bs (L ++ M)) : Begins bs L := by
  refine ⟨by have := h.le; rw [List.length_append] at this; omega, fun i hi => ?_⟩
  rw [h.eq i (by rw [List.length_append]; omega), getD_append_left _ _ _ hi]
theorem get (h : Begins bs (L ++ bitsTo v n n)) (hv : v < 2 ^ n) : gets bs L.length n = v := by
  have := gets_congr (bs := bs) (p := L.length) (u := v) (n := n) (fun j hj => by
    rw [h.eq _ (by rw [List.length_append, bitsTo_length]; omega), getD_append_right, bitsTo_getD _ _ _ _ hj]) n (Nat.le_refl _)
  rw [this]
  simp [Nat.mod_eq_of_lt hv]
theorem room (h : Begins bs (L ++ M)) : L.length + M.length ≤ 8 * bs.length := by have := h.le; rw [List.length_append] at this; exact this
theorem bit (h : Begins bs (L ++ M)) (j : Nat) (hj : j < M.length) : bitOf bs (L.length + j) = M.getD j 0 := by
  rw [h.eq _ (by rw [List.length_append]; omega), getD_append_right]
theorem snoc (h : Begins bs L) (hn : L.length < 8 * bs.length) {b : Nat} (hb : bitOf bs L.length = b) : Begins bs (L ++ [b]) := by
  refine ⟨by rw [List.length_append]; simp; omega, fun i hi => ?_⟩
  rw [List.length_append] at hi
  simp at hi
  rcases Nat.lt_or_ge i L.length with hl | hl
  · rw [getD_append_left _ _ _ hl]; exact h.eq i hl
  · obtain rfl : i = L.length := by omega
    rw [hb, getD_snoc_eq]
theorem pack {L : List Nat} (h : ∀ j, L.getD j 0 < 2) : Begins (pack L) L :=
  ⟨by rw [pack_length]; omega, fun i _ => bitOf_pack h i⟩
theorem all (h : Begins bs L) (hb : ∀ j, bs.getD j 0 < 256) (hL : ∀ j, L.getD j 0 < 2) (hend : 8 * bs.length < L.length + 8) (h0 : gets bs L.length (8 * bs.length - L.length) = 0) : bs = Go.Proofs.YtopbbicjbjmdnaaGreatDoor.pack L := by
  have hle := h.le
  refine bytes_ext (by rw [pack_length]; omega) hb (fun j => by rw [pack_getD]; exact byteAt_lt hL j) fun i hi => ?_
  rw [bitOf_pack hL]
  rcases Nat.lt_or_ge i L.length with hl | hl
  · exact h.eq i hl
  · obtain ⟨j, rfl⟩ : ∃ j, i = L.length + j := ⟨i - L.length, by omega⟩
    rw [← gets_bit bs L.length (8 * bs.length - L.length) j (by omega), h0, getD_ge L _ (by omega)]
    simp
end Begins
theorem gets_zero {bs : List Nat} {p : Nat} : ∀ n, (∀ j, j < n → bitOf bs (p + j) = 0) → gets bs p n = 0
  | 0, _ => rfl
  | n + 1, h => by rw [gets, gets_zero n (fun j hj => h j (by omega)), h n (by omega)]
theorem gets_pack_end {L : List Nat} (h : ∀ j, L.getD j 0 < 2) (n : Nat) : gets (pack L) L.length n = 0 :=
  gets_zero n fun j _ => by rw [bitOf_pack h, getD_ge L _ (by omega)]
end Go.Proofs.YtopbbicjbjmdnaaGreatDoor
namespace Go.Proofs.YtopbbicjbjmdnaaGreatDoor.D
set_option maxRecDepth 100000
def markBits (c : Nat) : List Nat := List.replicate c 1 ++ (if c < 4 then [0] else [])
theorem markBits_length {c : Nat} (h : c ≤ 4) : (markBits c).length = ah c := by
  unfold markBits ah
  rw [List.length_append, List.length_replicate]
  split
  · simp; omega
  · simp; omega
theorem dbits_mark (z : Nat) : dbits z = markBits (cls z) ++ bitsTo z (wd (cls z)) (wd (cls z)) := dbits_ref z
theorem markR_bwd (bs L : List Nat) (c q : Nat) : ∀ f, f ≤ 4 → Begins bs (L ++ List.replicate (4 - f) 1) → markR bs (8 * bs.length) f (L.length + (4 - f)) = (c, 0, q) → c ≤ 4 ∧ Begins bs (L ++ markBits c) ∧ q = L.length + ah c
  | 0, _, hb, h => by
    injection h with h1 h2
    injection h2 with h2 h3
    subst h1
    subst h3
    refine ⟨Nat.le_refl _, ?_, rfl⟩
    simpa [markBits] using hb
  | f + 1, hf, hb, h => by
    have hl : (L ++ List.replicate (4 - (f + 1)) 1).length = L.length + (4 - (f + 1)) := by simp
    unfold markR at h
    by_cases hp : L.length + (4 - (f + 1)) < 8 * bs.length
    · rw [if_pos hp] at h
      by_cases h0 : bitOf bs (L.length + (4 - (f + 1))) = 0
      · rw [if_pos h0] at h
        injection h with h1 h2
        injection h2 with h2 h3
        subst h1
        subst h3
        refine ⟨by omega, ?_, by unfold ah; omega⟩
        unfold markBits
        rw [if_pos (by omega), ← List.append_assoc]
        exact hb.snoc (by rw [hl]; exact hp) (by rw [hl]; exact h0)
      · rw [if_neg h0] at h
        have h1 : bitOf bs (L.length + (4 - (f + 1))) = 1 := by have := bitOf_lt bs (L.length + (4 - (f + 1))); omega
        have hs := hb.snoc (b := 1) (by rw [hl]; exact hp) (by rw [hl]; exact h1)
        rw [List.append_assoc, ← List.replicate_succ', show 4 - (f + 1) + 1 = 4 - f by omega] at hs
        rw [show L.length + (4 - (f + 1)) + 1 = L.length + (4 - f) by omega] at h
        exact markR_bwd bs L c q f (by omega) hs h
    · rw [if_neg hp] at h
      injection h with h1 h2
      injection h2 with h2 h3
      omega
theorem take_bwd {bs L : List Nat} {d : Int} {q : Nat} (hb : Begins bs L) (h : takeR bs (8 * bs.length) L.length = (d, 0, q)) : Begins bs (L ++ dbits (zig d)) ∧ q = (L ++ dbits (zig d)).length ∧ I64 d := by
  have hr := takeR_range bs (8 * bs.length) L.length
  rw [h] at hr
  unfold takeR at h
  have hm := markR_bwd bs L (markR bs (8 * bs.length) 4 L.length).1 (markR bs (8 * bs.length) 4 L.length).2.2 4 (Nat.le_refl _) (by simpa using hb)
  generalize markR bs (8 * bs.length) 4 L.length = mm at h hm
  obtain ⟨c, e, p⟩ := mm
  simp only [] at h hm
  unfold takeM at h
  by_cases he : e = 0
  · subst he
    obtain ⟨hc, hB, hp⟩ := hm rfl
    rw [if_pos rfl] at h
    by_cases hfit : p + wd c ≤ 8 * bs.length
    · rw [if_pos hfit] at h
      by_cases hcl : cls (gets bs p (wd c)) = c
      · rw [if_pos hcl] at h
        injection h with h1 h2
        injection h2 with h2 h3
        have hz : zig d = gets bs p (wd c) := by rw [← h1, zig_zag]
        have hpl : p = (L ++ markBits c).length := by rw [List.length_append, markBits_length hc]; exact hp
        have hB2 := hB.put (n := wd c) (v := gets bs p (wd c)) (by rw [← hpl]; exact hfit) (by rw [← hpl])
        rw [hz, dbits_mark, hcl, ← List.append_assoc]
        refine ⟨hB2, ?_, hr⟩
        rw [List.length_append, bitsTo_length, ← hpl, h3]
      · rw [if_neg hcl] at h
        injection h with h1 h2
        injection h2 with h2 h3
        omega
    · rw [if_neg hfit] at h
      injection h with h1 h2
      injection h2 with h2 h3
      omega
  · rw [if_neg he] at h
    injection h with h1 h2
    injection h2 with h2 h3
    exact absurd h2 he
theorem markR_fwd {bs L : List Nat} {c : Nat} (hc : c ≤ 4) (h : Begins bs (L ++ markBits c)) : markR bs (8 * bs.length) 4 L.length = (c, 0, L.length + ah c) := by
  have hr := h.room
  rw [markBits_length hc] at hr
  have hbit : ∀ j, j < ah c → bitOf bs (L.length + j) = (markBits c).getD j 0 := fun j hj => h.bit j (by rw [markBits_length hc]; exact hj)
  rcases (show c = 0 ∨ c = 1 ∨ c = 2 ∨ c = 3 ∨ c = 4 by omega) with rfl | rfl | rfl | rfl | rfl
  · have hr' : L.length + 1 ≤ 8 * bs.length := hr
    have a0 : bitOf bs (L.length + 0) = 0 := hbit 0 (by decide)
    show markR bs (8 * bs.length) 4 L.length = (0, 0, L.length + 1)
    rw [markR, if_pos (by omega), if_pos (by exact a0)]
  · have hr' : L.length + 2 ≤ 8 * bs.length := hr
    have a0 : bitOf bs (L.length + 0) = 1 := hbit 0 (by decide)
    have a1 : bitOf bs (L.length + 1) = 0 := hbit 1 (by decide)
    show markR bs (8 * bs.length) 4 L.length = (1, 0, L.length + 2)
    rw [markR, if_pos (by omega), if_neg (fun e => by have e' : bitOf bs (L.length + 0) = 0 := e; omega)]
    rw [markR, if_pos (by omega), if_pos (by exact a1)]
  · have hr' : L.length + 3 ≤ 8 * bs.length := hr
    have a0 : bitOf bs (L.length + 0) = 1 := hbit 0 (by decide)
    have a1 : bitOf bs (L.length + 1) = 1 := hbit 1 (by decide)
    have a2 : bitOf bs (L.length + 2) = 0 := hbit 2 (by decide)
    show markR bs (8 * bs.length) 4 L.length = (2, 0, L.length + 3)
    rw [markR, if_pos (by omega), if_neg (fun e => by have e' : bitOf bs (L.length + 0) = 0 := e; omega)]
    rw [markR, if_pos (by omega), if_neg (fun e => by have e' : bitOf bs (L.length + 1) = 0 := e; omega)]
    rw [markR, if_pos (by omega), if_pos (by exact a2)]
  · have hr' : L.length + 4 ≤ 8 * bs.length := hr
    have a0 : bitOf bs (L.length + 0) = 1 := hbit 0 (by decide)
    have a1 : bitOf bs (L.length + 1) = 1 := hbit 1 (by decide)
    have a2 : bitOf bs (L.length + 2) = 1 := hbit 2 (by decide)
    have a3 : bitOf bs (L.length + 3) = 0 := hbit 3 (by decide)
    show markR bs (8 * bs.length) 4 L.length = (3, 0, L.length + 4)
    rw [markR, if_pos (by omega), if_neg (fun e => by have e' : bitOf bs (L.length + 0) = 0 := e; omega)]
    rw [markR, if_pos (by omega), if_neg (fun e => by have e' : bitOf bs (L.length + 1) = 0 := e; omega)]
    rw [markR, if_pos (by omega), if_neg (fun e => by have e' : bitOf bs (L.length + 2) = 0 := e; omega)]
    rw [markR, if_pos (by omega), if_pos (by exact a3)]
  · have hr' : L.length + 4 ≤ 8 * bs.length := hr
    have a0 : bitOf bs (L.length + 0) = 1 := hbit 0 (by decide)
    have a1 : bitOf bs (L.length + 1) = 1 := hbit 1 (by decide)
    have a2 : bitOf bs (L.length + 2) = 1 := hbit 2 (by decide)
    have a3 : bitOf bs (L.length + 3) = 1 := hbit 3 (by decide)
    show markR bs (8 * bs.length) 4 L.length = (4, 0, L.length + 4)
    rw [markR, if_pos (by omega), if_neg (fun e => by have e' : bitOf bs (L.length + 0) = 0 := e; omega)]
    rw [markR, if_pos (by omega), if_neg (fun e => by have e' : bitOf bs (L.length + 1) = 0 := e; omega)]
    rw [markR, if_pos (by omega), if_neg (fun e => by have e' : bitOf bs (L.length + 2) = 0 := e; omega)]
    rw [markR, if_pos (by omega), if_neg (fun e => by have e' : bitOf bs (L.length + 3) = 0 := e; omega)]
    rfl
theorem cls_fits {z : Nat} (hz : z < 18446744073709551616) : z < 2 ^ wd (cls z) := by
  unfold cls
  split
  · subst z; decide
  · split
    · show z < 2 ^ 7; omega
    · split
      · show z < 2 ^ 12; omega
      · split
        · show z < 2 ^ 32; omega
        · show z < 2 ^ 64; omega
theorem take_fwd {bs L : List Nat} {z : Nat} (hz : z < 18446744073709551616) (h : Begins bs (L ++ dbits z)) : takeR bs (8 * bs.length) L.length = (zag z, 0, (L ++ dbits z).length) := by
  have hc := cls_le z
  rw [dbits_mark, ← List.append_assoc] at h
  have hm := markR_fwd hc h.pre
  have hpl : L.length + ah (cls z) = (L ++ markBits (cls z)).length := by rw [List.length_append, markBits_length hc]
  have hg := h.get (cls_fits hz)
  have hroom := h.room
  rw [bitsTo_length] at hroom
  unfold takeR
  rw [hm]
  show takeM bs (8 * bs.length) (cls z) 0 (L.length + ah (cls z)) = _
  unfold takeM
  rw [if_pos rfl, hpl, if_pos hroom, hg, if_pos rfl, dbits_mark, ← List.append_assoc]
  have e : (L ++ markBits (cls z) ++ bitsTo z (wd (cls z)) (wd (cls z))).length = (L ++ markBits (cls z)).length + wd (cls z) := by rw [List.length_append, bitsTo_length]
  rw [e]
theorem encTo_congr {f g : Nat → Int} : ∀ k, (∀ j, j < k → f j = g j) → encTo f k = encTo g k ∧ st f k = st g k
  | 0, _ => ⟨rfl, rfl⟩
  | 1, h => ⟨by unfold encTo; rw [h 0 (by omega)], rfl⟩
  | k + 2, h => by
    obtain ⟨h1, h2⟩ := encTo_congr (k + 1) (fun j hj => h j (by omega))
    refine ⟨?_, ?_⟩
    · unfold encTo
      rw [h1, h2, h (k + 1) (by omega), h k (by omega)]
    · show sub64 (f (k + 1)) (f k) = sub64 (g (k + 1)) (g k)
      rw [h (k + 1) (by omega), h k (by omega)]
theorem encTo_pre (f : Nat → Int) (k n : Nat) (h : k ≤ n) : ∃ M, encTo f n = encTo f k ++ M := by
  obtain ⟨m, rfl⟩ : ∃ m, n = k + m := ⟨n - k, by omega⟩
  clear h
  induction m with
  | zero => exact ⟨[], by simp⟩
  | succ m ih =>
    obtain ⟨M, hM⟩ := ih
    match hk : k + m with
    | 0 =>
      have : k = 0 := by omega
      subst this
      exact ⟨_, by rw [show encTo f 0 = [] from rfl, List.nil_append]⟩
    | j + 1 =>
      rw [hk] at hM
      rw [show k + (m + 1) = j + 2 by omega]
      refine ⟨M ++ dbits (zig (sub64 (sub64 (f (j + 1)) (f j)) (st f (j + 1)))), ?_⟩
      show encTo f (j + 1) ++ _ = _
      rw [hM, List.append_assoc]
theorem i64of_u64 {n : Int} (h : I64 n) : i64of (u64 n) = n := by unfold i64of u64; unfold I64 at h; split <;> omega
theorem u64_i64of {u : Nat} (h : u < 18446744073709551616) : u64 (i64of u) = u := by unfold i64of u64; split <;> omega
theorem add_sub64 {a b : Int} (h : I64 a) : add64 b (sub64 a b) = a := by unfold add64 sub64; unfold I64 at h; omega
theorem sub_add' {a s : Int} (h : I64 s) : sub64 (add64 a s) a = s := by unfold add64 sub64; unfold I64 at h; omega
/-- The first k numbers. -/
def upTo (f : Nat → Int) (k : Nat) : List Int := (List.range k).map f
theorem upTo_length (f : Nat → Int) (k : Nat) : (upTo f k).length = k := by simp [upTo]
theorem upTo_succ (f : Nat → Int) (k : Nat) : upTo f (k + 1) = upTo f k ++ [f k] := by simp [upTo, List.range_succ]
theorem upTo_getD (f : Nat → Int) (k j : Nat) (h : j < k) : (upTo f k).getD j 0 = f j := by
  unfold upTo
  rw [List.getD_eq_getElem?_getD, List.getElem?_map, List.getElem?_range h]; rfl
theorem next_fwd {bs : List Nat} {f : Nat → Int} {k : Nat} (hf : ∀ j, I64 (f j)) (h : Begins bs (encTo f (k + 1))) :
    nextR bs (8 * bs.length) (upTo f k) (st f k) (encTo f k).length = (f k, 0, st f (k + 1), (encTo f (k + 1)).length) := by
  match k with
  | 0 =>
    have h' : Begins bs ([] ++ bitsTo (u64 (f 0)) 64 64) := h
    have hg := h'.get (u64_lt _)
    have hroom := h'.room
    rw [bitsTo_length] at hroom
    unfold nextR
    rw [upTo_length, if_pos rfl]
    show (if 0 + 64 ≤ 8 * bs.length then _ else _) = _
    rw [if_pos (show 0 + 64 ≤ 8 * bs.length from hroom)]
    show (i64of (gets bs 0 64), _, _, _) = _
    have hg' : gets bs 0 64 = u64 (f 0) := hg
    rw [hg', i64of_u64 (hf 0)]
    show _ = (f 0, 0, 0, (bitsTo (u64 (f 0)) 64 64).length)
    rw [bitsTo_length]
    rfl
  | k + 1 =>
    have h' : Begins bs (encTo f (k + 1) ++ dbits (zig (sub64 (sub64 (f (k + 1)) (f k)) (st f (k + 1))))) := h
    have ht := take_fwd (zig_lt (sub64_range _ _).1 (sub64_range _ _).2) h'
    rw [zag_zig] at ht
    unfold nextR
    rw [upTo_length, if_neg (by omega), ht]
    show (add64 _ (add64 _ (sub64 _ _)), 0, add64 _ (sub64 _ _), _) = _
    have e1 : add64 (st f (k + 1)) (sub64 (sub64 (f (k + 1)) (f k)) (st f (k + 1))) = sub64 (f (k + 1)) (f k) := add_sub64 (sub64_range _ _)
    rw [show k + 1 - 1 = k by omega, upTo_getD f (k + 1) k (by omega), e1, add_sub64 (hf (k + 1))]
    rfl
theorem dec_fwd {bs : List Nat} {f : Nat → Int} {n : Nat} (hf : ∀ j, I64 (f j)) (h : Begins bs (encTo f n)) : ∀ m k, m + k = n → decR bs (8 * bs.length) m (upTo f k) (st f k) (encTo f k).length = (upTo f n, 0, (encTo f n).length)
  | 0, k, hk => by
    obtain rfl : k = n := by omega
    rfl
  | m + 1, k, hk => by
    obtain ⟨M, hM⟩ := encTo_pre f (k + 1) n (by omega)
    have hb : Begins bs (encTo f (k + 1)) := by rw [hM] at h; exact h.pre
    unfold decR
    rw [next_fwd hf hb]
    show (if (0 : Int) = 0 then _ else _) = _
    rw [if_pos rfl, ← upTo_succ]
    exact dec_fwd hf h m (k + 1) (by omega)
theorem dec_back {f : Nat → Int} (hf : ∀ j, I64 (f j)) (n : Nat) : decL (pack (encTo f n)) n = (upTo f n, 0) := by
  have hb := encTo_bit f n
  have h := dec_fwd hf (Begins.pack hb) n 0 (by omega)
  have h' : decR (pack (encTo f n)) (8 * (pack (encTo f n)).length) n [] 0 0 = (upTo f n, 0, (encTo f n).length) := h
  unfold decL
  rw [h']
  show (if (0 : Int) = 0 then _ else _) = _
  rw [if_pos rfl]
  have he : endR (pack (encTo f n)) (8 * (pack (encTo f n)).length) (encTo f n).length = true := by
    unfold endR
    rw [gets_pack_end hb, pack_length]
    simp
    omega
  show (if endR _ _ (encTo f n).length = true then _ else _) = _
  rw [he]
  rfl
theorem next_bwd {bs : List Nat} {out : List Int} {t s' : Int} {p' : Nat} (hb : Begins bs (encTo (fun j => out.getD j 0) out.length))
    (h : nextR bs (8 * bs.length) out (st (fun j => out.getD j 0) out.length) (encTo (fun j => out.getD j 0) out.length).length = (t, 0, s', p')) :
    Begins bs (encTo (fun j => (out ++ [t]).getD j 0) (out.length + 1)) ∧ s' = st (fun j => (out ++ [t]).getD j 0) (out.length + 1) ∧ p' = (encTo (fun j => (out ++ [t]).getD j 0) (out.length + 1)).length := by
  have hg : ∀ j, j < out.length → out.getD j 0 = (out ++ [t]).getD j 0 := fun j hj => by
    rw [List.getD_eq_getElem?_getD, List.getD_eq_getElem?_getD, List.getElem?_append_left hj]
  have hlast : (out ++ [t]).getD out.length 0 = t := by
    rw [List.getD_eq_getElem?_getD]; simp
  obtain ⟨c1, c2⟩ := encTo_congr out.length hg
  unfold nextR at h
  cases hl : out.length with
  | zero =>
    have ho : out = [] := List.eq_nil_of_length_eq_zero hl
    subst ho
    rw [if_pos (show ([] : List Int).length = 0 from rfl)] at h
    have h' : (if 0 + 64 ≤ 8 * bs.length then (i64of (gets bs 0 64), (0 : Int), (0 : Int), 0 + 64) else (0, 10, 0, 0)) = (t, 0, s', p') := h
    by_cases hfit : 0 + 64 ≤ 8 * bs.length
    · rw [if_pos hfit] at h'
      injection h' with h1 h2
      injection h2 with h2 h3
      injection h3 with h3 h4
      have hz := gets_64 bs 0 64 (by omega)
      have hB := (Begins.nil bs).put (n := 64) (v := gets bs 0 64) hfit rfl
      have e : encTo (fun j => ([] ++ [t]).getD j 0) (0 + 1) = [] ++ bitsTo (gets bs 0 64) 64 64 := by
        show bitsTo (u64 t) 64 64 = _
        rw [← h1, u64_i64of hz]
        rfl
      rw [e]
      refine ⟨hB, h3.symm, ?_⟩
      rw [← h4, List.nil_append, bitsTo_length]
    · rw [if_neg hfit] at h'
      injection h' with h1 h2
      injection h2 with h2 h3
      omega
  | succ k =>
    rw [if_neg (by omega)] at h
    rw [hl] at hb h c1 c2
    rcases htk : takeR bs (8 * bs.length) (encTo (fun j => out.getD j 0) (k + 1)).length with ⟨d, er, q⟩
    rw [htk] at h
    injection h with h1 h2
    injection h2 with h2 h3
    injection h3 with h3 h4
    simp only [] at h1 h2 h3 h4
    subst h2
    obtain ⟨hB, hq, hd⟩ := take_bwd hb htk
    have e1 : (out ++ [t]).getD (k + 1) 0 = t := by rw [← hl]; exact hlast
    have e2 : (out ++ [t]).getD k 0 = out.getD k 0 := (hg k (by omega)).symm
    have e3 : sub64 t (out.getD k 0) = s' := by
      rw [← h1, h3, show k + 1 - 1 = k by omega, ]
      exact sub_add' (by rw [← h3]; exact add64_I _ _)
    have e4 : sub64 s' (st (fun j => out.getD j 0) (k + 1)) = d := by rw [← h3]; exact sub_add' hd
    have e : encTo (fun j => (out ++ [t]).getD j 0) (k + 1 + 1) = encTo (fun j => out.getD j 0) (k + 1) ++ dbits (zig d) := by
      show encTo (fun j => (out ++ [t]).getD j 0) (k + 1) ++ dbits (zig (sub64 (sub64 ((out ++ [t]).getD (k + 1) 0) ((out ++ [t]).getD k 0)) (st (fun j => (out ++ [t]).getD j 0) (k + 1)))) = _
      rw [← c1, ← c2, e1, e2, e3, e4]
    rw [e]
    refine ⟨hB, ?_, by rw [← h4, hq]⟩
    show s' = sub64 ((out ++ [t]).getD (k + 1) 0) ((out ++ [t]).getD k 0)
    rw [e1, e2, e3]
theorem dec_bwd {bs : List Nat} {l : List Int} {q : Nat} : ∀ m (out : List Int), Begins bs (encTo (fun j => out.getD j 0) out.length) →
    decR bs (8 * bs.length) m out (st (fun j => out.getD j 0) out.length) (encTo (fun j => out.getD j 0) out.length).length = (l, 0, q) →
    l.length = out.length + m ∧ Begins bs (encTo (fun j => l.getD j 0) l.length) ∧ q = (encTo (fun j => l.getD j 0) l.length).length
  | 0, out, hb, h => by
    injection h with h1 h2
    injection h2 with h2 h3
    subst h1
    exact ⟨rfl, hb, h3.symm⟩
  | m + 1, out, hb, h => by
    unfold decR at h
    rcases hn : nextR bs (8 * bs.length) out (st (fun j => out.getD j 0) out.length) (encTo (fun j => out.getD j 0) out.length).length with ⟨t, er, s', p'⟩
    rw [hn] at h
    have h' : (if er = 0 then decR bs (8 * bs.length) m (out ++ [t]) s' p' else ([], er, (encTo (fun j => out.getD j 0) out.length).length)) = (l, 0, q) := h
    by_cases he : er = 0
    · subst he
      rw [if_pos rfl] at h'
      obtain ⟨h1, h2, h3⟩ := next_bwd hb hn
      have hl : (out ++ [t]).length = out.length + 1 := by simp
      rw [h2, h3] at h'
      have := dec_bwd m (out ++ [t]) (by rw [hl]; exact h1) (by rw [hl]; exact h')
      rw [hl] at this
      exact ⟨by omega, this.2⟩
    · rw [if_neg he] at h'
      injection h' with h1 h2
      injection h2 with h2 h3
      exact absurd h2 he
theorem dec_one {bs : List Nat} (hbyte : ∀ j, bs.getD j 0 < 256) {n : Nat} {l : List Int} (h : decL bs n = (l, 0)) : l.length = n ∧ pack (encTo (fun j => l.getD j 0) n) = bs := by
  unfold decL at h
  rcases hd : decR bs (8 * bs.length) n [] 0 0 with ⟨o, er, q⟩
  rw [hd] at h
  have h' : (if er = 0 then (if endR bs (8 * bs.length) q = true then (o, (0 : Int)) else ([], 11)) else ([], er)) = (l, 0) := h
  by_cases he : er = 0
  · subst he
    rw [if_pos rfl] at h'
    by_cases hend : endR bs (8 * bs.length) q = true
    · rw [if_pos hend] at h'
      injection h' with h1 h2
      subst h1
      obtain ⟨g1, g2, g3⟩ := dec_bwd n [] (Begins.nil bs) hd
      have hl : o.length = n := by simpa using g1
      refine ⟨hl, ?_⟩
      rw [hl] at g2 g3
      unfold endR at hend
      simp only [Bool.and_eq_true, decide_eq_true_eq] at hend
      obtain ⟨e1, e2⟩ := hend
      rw [g3] at e1 e2
      have := g2.le
      exact (g2.all hbyte (encTo_bit _ _) (by omega) (by rw [show min (8 * bs.length - (encTo (fun j => o.getD j 0) n).length) 64 = 8 * bs.length - (encTo (fun j => o.getD j 0) n).length by omega] at e2; exact e2)).symm
    · rw [if_neg hend] at h'
      injection h' with h1 h2
      omega
  · rw [if_neg he] at h'
    injection h' with h1 h2
    exact absurd h2 he
end Go.Proofs.YtopbbicjbjmdnaaGreatDoor.D
namespace Go.Proofs.YtopbbicjbjmdnaaGreatDoor.D
set_option maxRecDepth 100000
open Go.RowKit
set_option linter.unusedVariables false
set_option linter.unusedSimpArgs false
theorem row_bytes {w : World} {base : Nat} {A : Option Addr} {n c : Nat} {bs : List Nat} (hn : bs.length = n) (h : w.ownsRow base 5 1 (.slice A n c) n (bs.map byteV)) : Sl w (fun k => (Value.slice A n c).ownBlock = some k) A n (byteC bs) := by
  refine Sl.of_own h ?_
  intro j u hu
  rw [List.getElem?_map] at hu
  cases hj : bs[j]? with
  | none => rw [hj] at hu; cases hu
  | some x => rw [hj] at hu; injection hu with hu; unfold byteC; rw [List.getD_eq_getElem?_getD, hj]; exact hu.symm
theorem pack_byte (L : List Nat) (h : ∀ j, L.getD j 0 < 2) (j : Nat) : (pack L).getD j 0 < 256 := by rw [pack_getD]; exact byteAt_lt h j
end Go.Proofs.YtopbbicjbjmdnaaGreatDoor.D
namespace Go.Proofs.YtopbbicjbjmdnaaGreatDoor.D
set_option maxRecDepth 100000
open Go.RowKit
set_option linter.unusedVariables false
set_option linter.unusedSimpArgs false
def decA (bs : List Nat) (n : Int) : List Int × Int := if n < 0 then ([], 2) else if 4096 < n then ([], 3) else decL bs n.toNat
theorem decode_any (w : World) (A : Option Addr) (len c : Nat) (D0 : Nat → Prop) (bs : List Nat) (n : Int) (hl : bs.length = len) (hsl : Sl w D0 A len (byteC bs)) (hbyte : ∀ j, bs.getD j 0 < 256) (hsm : len ≤ 1048576) :
    Calls Tryz.prog 68 #[.slice A len c, .int .i64 n] w (DecPost w (decA bs n)) := by
  unfold decA
  by_cases h1 : n < 0
  · rw [if_pos h1]; exact decode_arg w A len c n h1
  · rw [if_neg h1]
    by_cases h2 : 4096 < n
    · rw [if_pos h2]; exact decode_big w A len c n h2
    · rw [if_neg h2]
      obtain ⟨m, rfl⟩ := Int.eq_ofNat_of_zero_le (show 0 ≤ n by omega)
      exact decode_ok w A len c D0 bs m hl hsl hbyte hsm (by omega)
theorem decL_err {bs : List Nat} {n : Nat} (h : (decL bs n).2 ≠ 0) : (decL bs n).1 = [] := by
  unfold decL decM at h ⊢
  split
  · next e =>
    rw [if_pos e] at h
    split
    · next e2 => rw [if_pos e2] at h; exact absurd rfl h
    · rfl
  · rfl
theorem decA_err {bs : List Nat} {n : Int} (h : (decA bs n).2 ≠ 0) : (decA bs n).1 = [] := by
  unfold decA at h ⊢
  split
  · rfl
  · next h1 =>
    rw [if_neg h1] at h
    split
    · rfl
    · next h2 => rw [if_neg h2] at h; exact decL_err h
theorem decA_ok {bs : List Nat} (hb : ∀ j, bs.getD j 0 < 256) {n : Int} {l : List Int} (h : decA bs n = (l, 0)) : (l.length : Int) = n ∧ l.length ≤ 4096 ∧ pack (encTo (fun j => l.getD j 0) l.length) = bs := by
  unfold decA at h
  by_cases h1 : n < 0
  · rw [if_pos h1] at h; injection h with _ h; omega
  · rw [if_neg h1] at h
    by_cases h2 : 4096 < n
    · rw [if_pos h2] at h; injection h with _ h; omega
    · rw [if_neg h2] at h
      obtain ⟨g1, g2⟩ := dec_one hb h
      rw [← g1] at g2
      exact ⟨by omega, by omega, g2⟩
theorem decR_ints (bs : List Nat) (en : Nat) : ∀ m (out : List Int) (step : Int) (p : Nat), (∀ j, I64 (out.getD j 0)) → I64 step → ∀ j, I64 ((decR bs en m out step p).1.getD j 0)
  | 0, out, _, _, h, _ => h
  | m + 1, out, step, p, h, hs => by
    have hr := nextR_range bs en out step p hs
    unfold decR
    split
    · exact decR_ints bs en m _ _ _ (getD_I h hr.1) hr.2
    · intro j; exact ⟨by simp, by simp⟩
theorem decA_ints (bs : List Nat) (n : Int) : ∀ j, I64 ((decA bs n).1.getD j 0) := by
  intro j
  have z : I64 (([] : List Int).getD j 0) := ⟨by simp, by simp⟩
  unfold decA
  split
  · exact z
  · split
    · exact z
    · unfold decL decM
      split
      · split
        · exact decR_ints bs _ _ [] 0 0 (fun j => ⟨by simp, by simp⟩) ⟨by omega, by omega⟩ j
        · exact z
      · exact z
theorem sl_two (w : World) (t : TypeId) (u v : Value) : Sl (w.alloc (.cells #[u, v] t)) (fun k => k = w.heap.size) (some ⟨w.heap.size, 0, none⟩) 2 (fun j => if j = 0 then u else v) := fun _ =>
  ⟨_, _, rfl, rfl, fun j hj => by
    rw [(Blk.fresh w t #[u, v]).cell (0 + j)]
    rcases (show j = 0 ∨ j = 1 by omega) with rfl | rfl <;> rfl⟩
theorem enc_two_len : (pack (encTo (fun _ => 9) 2)).length = 9 := by
  rw [pack_length]
  show ((bitsTo (u64 9) 64 64 ++ dbits (zig (sub64 (sub64 9 9) (st (fun _ => 9) 1)))).length + 7) / 8 = 9
  rw [List.length_append, bitsTo_length, dbits_length]
  have : zig (sub64 (sub64 9 9) (st (fun _ => 9) 1)) = 0 := by decide
  rw [this]
  decide
end Go.Proofs.YtopbbicjbjmdnaaGreatDoor.D
namespace Go.Proofs.YtopbbicjbjmdnaaGreatDoor.X
set_option maxRecDepth 100000
open Go.RowKit
set_option linter.unusedVariables false
set_option linter.unusedSimpArgs false
def wl (o : Option (Nat × Nat)) : Int := match o with
  | none => -1
  | some p => (p.1 : Nat)
def wt (o : Option (Nat × Nat)) : Int := match o with
  | none => -1
  | some p => (p.2 : Nat)
/-- The taker at block t: its reader at r, its window o, its error e, its place p. -/
structure Tk (w wr : World) (t r : Nat) (D : Nat → Prop) (bs : List Nat) (en : Nat) (o : Option (Nat × Nat)) (e : Int) (p : Nat) : Prop where
  rd : Rd wr r D bs p en
  blk : Blk wr t 173 #[.pointer (some ⟨r, 0, none⟩), .int .i64 (wl o), .int .i64 (wt o), .int .i64 e]
  keep : Keeps (fun k => k = r ∨ k = t) w wr
  ne : r ≠ t
  nd : ¬ D t
namespace Tk
variable {w wr w' : World} {t r : Nat} {D : Nat → Prop} {bs : List Nat} {en : Nat} {o : Option (Nat × Nat)} {e : Int} {p : Nat}
theorem below (h : Tk w wr t r D bs en o e p) (hb : Below wr.heap.size wr w') : Tk w w' t r D bs en o e p :=
  ⟨h.rd.below hb, h.blk.below hb h.blk.lt, h.keep.trans' (Keeps.of_below hb), h.ne, h.nd⟩
theorem drew (h : Tk w wr t r D bs en o e p) : Tk w wr.drew t r D bs en o e p := ⟨h.rd.drewN 1, h.blk.drew, h.keep.drew, h.ne, h.nd⟩
theorem drewN (h : Tk w wr t r D bs en o e p) (k : Nat) : Tk w (wr.drewN k) t r D bs en o e p := ⟨h.rd.drewN k, h.blk.drewN k, h.keep.drewN k, h.ne, h.nd⟩
theorem c0 (h : Tk w wr t r D bs en o e p) : wr.cell? ⟨t, 0, none⟩ = some (.pointer (some ⟨r, 0, none⟩)) := by simpa using h.blk.cell 0
theorem c1 (h : Tk w wr t r D bs en o e p) : wr.cell? ⟨t, 1, none⟩ = some (.int .i64 (wl o)) := by simpa using h.blk.cell 1
theorem c2 (h : Tk w wr t r D bs en o e p) : wr.cell? ⟨t, 2, none⟩ = some (.int .i64 (wt o)) := by simpa using h.blk.cell 2
theorem c3 (h : Tk w wr t r D bs en o e p) : wr.cell? ⟨t, 3, none⟩ = some (.int .i64 e) := by simpa using h.blk.cell 3
theorem fz (h : Tk w wr t r D bs en o e p) (i : Nat) : wr.frozen? ⟨t, i, none⟩ = false := h.blk.frozen i
theorem setE (h : Tk w wr t r D bs en o e p) (e' : Int) : Tk w (wr.setCell ⟨t, 3, none⟩ (.int .i64 e')) t r D bs en o e' p := by
  have hk : Keeps (fun k => k = t) wr (wr.setCell ⟨t, 3, none⟩ (.int .i64 e')) := (Keeps.refl (fun k => k = t) wr).setCell (p := ⟨t, 3, none⟩) (fun _ => rfl) _
  refine ⟨h.rd.keeps hk (fun e => h.ne e) (fun k hk e => h.nd (e ▸ hk)), ?_, h.keep.trans hk (fun k _ e => .inr e), h.ne, h.nd⟩
  simpa using h.blk.set 3 (.int .i64 e')
theorem setO (h : Tk w wr t r D bs en o e p) (l m : Nat) : Tk w ((wr.setCell ⟨t, 1, none⟩ (.int .i64 (l : Nat))).setCell ⟨t, 2, none⟩ (.int .i64 (m : Nat))) t r D bs en (some (l, m)) e p := by
  have hk : Keeps (fun k => k = t) wr ((wr.setCell ⟨t, 1, none⟩ (.int .i64 (l : Nat))).setCell ⟨t, 2, none⟩ (.int .i64 (m : Nat))) :=
    ((Keeps.refl (fun k => k = t) wr).setCell (p := ⟨t, 1, none⟩) (fun _ => rfl) _).setCell (p := ⟨t, 2, none⟩) (fun _ => rfl) _
  refine ⟨h.rd.keeps hk (fun e => h.ne e) (fun k hk e => h.nd (e ▸ hk)), ?_, h.keep.trans hk (fun k _ e => .inr e), h.ne, h.nd⟩
  have hb := (h.blk.set 1 (.int .i64 (l : Nat))).set 2 (.int .i64 (m : Nat))
  simp at hb
  exact hb
theorem re (h : Tk w wr t r D bs en o e p) : Tk wr wr t r D bs en o e p := ⟨h.rd, h.blk, Keeps.refl _ _, h.ne, h.nd⟩
theorem on {o' : Option (Nat × Nat)} {e' : Int} {p' : Nat} (h : Tk w wr t r D bs en o e p) (h' : Tk wr w' t r D bs en o' e' p') : Tk w w' t r D bs en o' e' p' := ⟨h'.rd, h'.blk, h.keep.trans' h'.keep, h'.ne, h'.nd⟩
theorem read (h : Tk w wr t r D bs en o e p) {p' : Nat} (hr : Rd w' r D bs p' en) (hk : Keeps (fun k => k = r) wr w') : Tk w w' t r D bs en o e p' :=
  ⟨hr, h.blk.keeps hk (fun e => h.ne e.symm), h.keep.trans hk (fun k _ e => .inl e), h.ne, h.nd⟩
end Tk
/-- What get gives: the bits, the error, the place behind. -/
def tget (bs : List Nat) (en : Nat) (e : Int) (p n : Nat) : Nat × Int × Nat := if e = 0 then (if p + n ≤ en then (gets bs p n, 0, p + n) else (0, 10, p)) else (0, e, p)
def TGetPost (w : World) (t r : Nat) (D : Nat → Prop) (bs : List Nat) (en : Nat) (o : Option (Nat × Nat)) (g : Nat × Int × Nat) (e : Ending) (w' : World) : Prop :=
  e = .returned (.int .u64 (g.1 : Nat)) ∧ Tk w w' t r D bs en o g.2.1 g.2.2
set_option maxHeartbeats 400000 in
theorem tget_any {w wr : World} {t r : Nat} {D : Nat → Prop} {bs : List Nat} {en : Nat} {o : Option (Nat × Nat)} {e : Int} {p : Nat} (h : Tk w wr t r D bs en o e p) (n : Nat) (hn : n ≤ 64) :
    Calls Tryz.prog 89 #[.pointer (some ⟨t, 0, none⟩), .int .i64 (n : Nat)] wr (TGetPost w t r D bs en o (tget bs en e p n)) := by
  have c0 := h.c0
  have c3 := h.c3
  have HH := Lib.hid h
  clear h
  by_cases he : e = 0
  · subst he
    go_enter Tryz.func89, Tryz.ntmps89
    go_wp2_with fail
    refine (get_any _ _ _ _ _ _ _ HH.out.rd).mono ?_
    rintro e w2 ⟨rfl, hr2, hk2⟩
    by_cases hp : p + n ≤ en
    · have g1 : getV bs p en n = gets bs p n := by unfold getV; rw [if_pos (by omega)]; rfl
      have g2 : getE p en n = 0 := by unfold getE; rw [if_pos (by omega), if_pos (by omega)]
      have g3 : getN p en n = n := by unfold getN; rw [if_pos (by omega)]; rfl
      rw [g3] at hr2
      rw [g1, g2]
      have h2 := HH.out.read hr2 hk2
      have f3 := h2.fz 3
      have d3 := h2.c3
      have hg : tget bs en 0 p n = (gets bs p n, 0, p + n) := by unfold tget; rw [if_pos rfl, if_pos hp]
      obtain ⟨v, hv⟩ : ∃ v, v = gets bs p n := ⟨_, rfl⟩
      rw [← hv] at hg
      rw [← hv]
      have H2 := Lib.hid (And.intro h2 hg)
      clear h2 hg hr2 hk2 g1 g2 g3 hp hv c0 c3
      go_wp2_with fail
      go_ret
      rw [H2.out.2]
      exact ⟨rfl, H2.out.1.setE 0⟩
    · have g1 : getV bs p en n = 0 := by unfold getV; rw [if_neg (by omega)]
      have g2 : getE p en n = 10 := by unfold getE; rw [if_pos (by omega), if_neg (by omega)]
      have g3 : getN p en n = 0 := by unfold getN; rw [if_neg (by omega)]
      rw [g3] at hr2
      rw [g1, g2]
      have h2 := HH.out.read hr2 hk2
      have f3 := h2.fz 3
      have d3 := h2.c3
      have hg : tget bs en 0 p n = (0, 10, p) := by unfold tget; rw [if_pos rfl, if_neg hp]
      have H2 := Lib.hid (And.intro h2 hg)
      clear h2 hg hr2 hk2 g1 g2 g3 hp c0 c3
      go_wp2_with fail
      go_ret
      rw [H2.out.2]
      exact ⟨rfl, H2.out.1.setE 10⟩
  · have hg : tget bs en e p n = (0, e, p) := by unfold tget; rw [if_neg he]
    rw [hg]
    go_enter Tryz.func89, Tryz.ntmps89
    go_wp2_with fail
    go_ret
    exact ⟨rfl, HH.out⟩
def TWrongPost (w : World) (t r : Nat) (D : Nat → Prop) (bs : List Nat) (en : Nat) (o : Option (Nat × Nat)) (e' : Int) (p : Nat) (e : Ending) (w' : World) : Prop :=
  e = .returned (.tuple #[]) ∧ Tk w w' t r D bs en o e' p
set_option maxHeartbeats 400000 in
theorem twrong_any {w wr : World} {t r : Nat} {D : Nat → Prop} {bs : List Nat} {en : Nat} {o : Option (Nat × Nat)} {e : Int} {p : Nat} (h : Tk w wr t r D bs en o e p) (b : Bool) :
    Calls Tryz.prog 92 #[.pointer (some ⟨t, 0, none⟩), .bool b] wr (TWrongPost w t r D bs en o (if b = true ∧ e = 0 then 11 else e) p) := by
  have c3 := h.c3
  have f3 := h.fz 3
  have HH := Lib.hid h
  clear h
  cases b with
  | false =>
    rw [if_neg (by simp)]
    go_enter Tryz.func92, Tryz.ntmps92
    go_wp2_with fail
    refine bodyPost_end (v := .tuple #[]) (by simp [results, Tryz.results92, go_sem]) rfl ?_
    exact ⟨rfl, HH.out⟩
  | true =>
    by_cases he : e = 0
    · subst he
      rw [if_pos ⟨rfl, rfl⟩]
      go_enter Tryz.func92, Tryz.ntmps92
      go_wp2_with fail
      refine bodyPost_end (v := .tuple #[]) (by simp [results, Tryz.results92, go_sem]) rfl ?_
      exact ⟨rfl, HH.out.setE 11⟩
    · rw [if_neg (by simp [he])]
      go_enter Tryz.func92, Tryz.ntmps92
      go_wp2_with fail
      refine bodyPost_end (v := .tuple #[]) (by simp [results, Tryz.results92, go_sem]) rfl ?_
      exact ⟨rfl, HH.out⟩
end Go.Proofs.YtopbbicjbjmdnaaGreatDoor.X
