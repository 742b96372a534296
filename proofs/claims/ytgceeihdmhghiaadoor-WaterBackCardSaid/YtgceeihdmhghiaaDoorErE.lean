/-
  The contracts of varint's ReadInt and ReadText.
-/
import Derived.Test.YtgceeihdmhghiaaDoorErD
import Derived.Test.YtgceeihdmhghiaaDoorZag
import Derived.Test.YtgceeihdmhghiaaDoorLat
namespace Go.Proofs.YtgceeihdmhghiaaDoor
open Go.RowKit
set_option linter.unusedVariables false
set_option linter.unusedSimpArgs false
def VIntPost (l : List Nat) (w : World) (e : Ending) (w' : World) : Prop :=
  e = .returned (.tuple #[.int .i64 (zag (vget l).1), .int .i64 ((vget l).2.1 : Nat), .int .i64 ((vget l).2.2 : Nat)]) ∧ Below w.heap.size w w'
set_option maxRecDepth 100000 in
set_option maxHeartbeats 1000000 in
theorem vreadInt_any (w : World) (D : Nat → Prop) (A : Option Addr) (len c : Nat) (l : List Nat) (hl : l.length = len) (hb : ∀ j, l.getD j 0 < 256) (hsl : Sl w D A len (byteC l)) (hm : len ≤ 9223372036854775807) (hv : HErr w) :
    Calls Tryd.prog 10 #[.slice A len c] w (VIntPost l w) := by
  have HS := Lib.hid (And.intro hl (And.intro hb (And.intro hsl (And.intro hm hv))))
  clear hl hb hsl hm hv
  go_enter Tryd.func10, Tryd.ntmps10
  go_wp2_with fail
  refine (vread_any w D A len c l HS.out.1 HS.out.2.1 HS.out.2.2.1 HS.out.2.2.2.1 HS.out.2.2.2.2).mono ?_
  rintro e w1 ⟨rfl, hb⟩
  obtain ⟨u, hu⟩ : ∃ u, u = (vget l).1 := ⟨_, rfl⟩
  obtain ⟨n, hn⟩ : ∃ n, n = (vget l).2.1 := ⟨_, rfl⟩
  obtain ⟨k, hk⟩ : ∃ k, k = (vget l).2.2 := ⟨_, rfl⟩
  have hu2 := (vget_lt l).1
  rw [← hu] at hu2
  rw [← hu, ← hn, ← hk]
  have HU := Lib.hid (And.intro hu (And.intro hn (And.intro hk hb)))
  clear hu hn hk hb
  go_wp2_with fail
  refine (zag_any u _ hu2).mono ?_
  rintro e w2 ⟨rfl, rfl⟩
  obtain ⟨z, hz⟩ : ∃ z, z = zag u := ⟨_, rfl⟩
  rw [← hz]
  have HZ := Lib.hid hz
  clear hz
  go_wp2_with fail
  go_ret3
  exact ⟨by rw [← HU.out.1, ← HU.out.2.1, ← HU.out.2.2.1, ← HZ.out]; rfl, HU.out.2.2.2⟩
/-- A text of bytes: it, how many bytes it has with its number, what is wrong. -/
def vtext (l : List Nat) (most : Int) : List Nat × Nat × Nat :=
  if (vget l).2.2 ≠ 0 then ([], 0, (vget l).2.2)
  else if most < 0 ∨ most < (vget l).1 then ([], 0, 3)
  else if l.length - (vget l).2.1 < (vget l).1 then ([], 0, 10)
  else ((l.drop (vget l).2.1).take (vget l).1, (vget l).2.1 + (vget l).1, 0)
theorem vtext_eq (l : List Nat) (most : Int) : vtext l most = (if (vget l).2.2 ≠ 0 then ([], 0, (vget l).2.2)
  else if most < 0 ∨ most < (vget l).1 then ([], 0, 3)
  else if l.length - (vget l).2.1 < (vget l).1 then ([], 0, 10)
  else ((l.drop (vget l).2.1).take (vget l).1, (vget l).2.1 + (vget l).1, 0)) := rfl
def VTextPost (l : List Nat) (most : Int) (w : World) (e : Ending) (w' : World) : Prop :=
  e = .returned (.tuple #[.string (strB (vtext l most).1), .int .i64 ((vtext l most).2.1 : Nat), .int .i64 ((vtext l most).2.2 : Nat)]) ∧ Below w.heap.size w w'
set_option maxRecDepth 100000 in
set_option maxHeartbeats 4000000 in
theorem vreadText_any (w : World) (A : Option Addr) (len c : Nat) (l : List Nat) (most : Int) (hl : l.length = len) (hb : ∀ j, l.getD j 0 < 256) (hsl : Sl w (fun q => q < w.heap.size) A len (byteC l)) (hlc : len ≤ c) (hcm : c ≤ 9223372036854775807) (hv : HErr w)
    (hm0 : -9223372036854775808 ≤ most) (hm1 : most ≤ 9223372036854775807) :
    Calls Tryd.prog 12 #[.slice A len c, .int .i64 most] w (VTextPost l most w) := by
  have HS := Lib.hid (And.intro hl (And.intro hb (And.intro hsl hv)))
  clear hl hb hsl hv
  go_enter Tryd.func12, Tryd.ntmps12
  go_wp2_with fail
  refine (vread_any w _ A len c l HS.out.1 HS.out.2.1 HS.out.2.2.1 (by omega) HS.out.2.2.2).mono ?_
  rintro e w1 ⟨rfl, hb⟩
  have hvl := vget_lt l
  have hve := vget_e l
  have hvt := vtext_eq l most
  have hlen := HS.out.1
  have hvo : (vget l).2.2 = 0 → 1 ≤ (vget l).2.1 := fun h => (vget_put HS.out.2.1 h).1
  obtain ⟨u, hu⟩ : ∃ u, u = (vget l).1 := ⟨_, rfl⟩
  obtain ⟨n, hn⟩ : ∃ n, n = (vget l).2.1 := ⟨_, rfl⟩
  obtain ⟨k, hk⟩ : ∃ k, k = (vget l).2.2 := ⟨_, rfl⟩
  rw [← hu, ← hn, ← hk] at hve hvt
  rw [← hu, ← hn] at hvl
  rw [← hk, ← hn] at hvo
  rw [← hu, ← hn, ← hk]
  rw [hlen] at hvl hvt
  have HB := Lib.hid hb
  clear hb hu hn hk hlen
  by_cases h0 : k = 0
  · have h1 := hvo h0
    subst h0
    rw [if_neg (by omega)] at hvt
    obtain ⟨hu64, hn10, hnl⟩ := hvl
    clear hve hvo
    by_cases c2 : most < 0
    · rw [if_pos (.inl c2)] at hvt
      have HT := Lib.hid hvt
      clear hvt
      go_wp2_with fail
      go_ret3
      exact ⟨by rw [HT.out]; rfl, HB.out⟩
    · have d2 : decide (most < 0) = false := by simp; omega
      have k2 : IntKind.u64.wrap most = most := by rw [IntKind.wrap_u64]; omega
      by_cases c3 : most < u
      · rw [if_pos (.inr c3)] at hvt
        have HT := Lib.hid hvt
        clear hvt
        go_wp2_with fail
        go_ret3
        exact ⟨by rw [HT.out]; rfl, HB.out⟩
      · rw [if_neg (by omega)] at hvt
        have d3 : decide (most < (u : Int)) = false := by simp; omega
        have k3 : IntKind.u64.wrap ((len : Int) - (n : Int)) = (len : Int) - (n : Int) := by rw [IntKind.wrap_u64]; omega
        have k4 : IntKind.i64.wrap (u : Int) = (u : Int) := by rw [IntKind.wrap_i64]; omega
        by_cases c4 : len - n < u
        · rw [if_pos c4] at hvt
          have HT := Lib.hid hvt
          have d4 : decide ((len : Int) - (n : Int) < (u : Int)) = true := by simp; omega
          clear hvt
          go_wp2_with fail
          go_ret3
          exact ⟨by rw [HT.out]; rfl, HB.out⟩
        · rw [if_neg c4] at hvt
          have HT := Lib.hid hvt
          have d4 : decide ((len : Int) - (n : Int) < (u : Int)) = false := by simp; omega
          obtain ⟨b, off, rfl, -, -⟩ := HS.out.2.2.1 (by omega)
          clear hvt
          have hun : u ≤ len - n := by omega
          clear c4
          by_cases hnc : n = c
          · have hu0 : u = 0 := by omega
            have hnl2 : len = n := by omega
            subst hu0 hnl2 hnc
            have hc := fun (A : Option Addr) (q : Nat) => conv_sl (P := Tryd.prog) (w := w1) (D := fun _ => True) (A := A) (len := 0) (c := q) (bs := []) 22 5 9 Tryd.underlying22 Tryd.underlying5 Tryd.underlying9 rfl (Sl.nil _ _ _ _)
            have HT2 := Lib.hid (show vtext l most = ([], len, 0) by rw [HT.out]; simp)
            clear HT
            go_wp2_with fail
            go_ret3
            exact ⟨by rw [HT2.out]; rfl, HB.out⟩
          · have hs := sl_take_list (sl_drop_list (sl_later HS.out.2.2.1 HB.out) hnl) hun
            have hc := conv_sl (P := Tryd.prog) (c := c - n) 22 5 9 Tryd.underlying22 Tryd.underlying5 Tryd.underlying9 (by rw [List.length_take, List.length_drop]; have := HS.out.1; omega) hs
            obtain ⟨P, hP⟩ : ∃ P, P = (l.drop n).take u := ⟨_, rfl⟩
            rw [← hP] at hc HT
            clear hs hP
            go_wp2_with fail
            go_ret3
            exact ⟨by rw [HT.out]; rfl, HB.out⟩
  · rw [if_pos h0] at hvt
    have d0 : ((k : Int) != 0) = true := by simp; omega
    have HT := Lib.hid hvt
    clear hvt hvo hve h0
    go_wp2_with fail
    go_ret3
    exact ⟨by rw [HT.out]; rfl, HB.out⟩
end Go.Proofs.YtgceeihdmhghiaaDoor
