/-
  The contracts of varint's ReadInt and ReadText.
-/
import Derived.Test.YthhgnngpaagagaaDoorErD
import Derived.Test.YthhgnngpaagagaaDoorZag
import Derived.Test.YthhgnngpaagagaaDoorLat
namespace Go.Proofs.YthhgnngpaagagaaDoor
open Go.RowKit
set_option linter.unusedVariables false
set_option linter.unusedSimpArgs false
def VIntPost (l : List Nat) (w : World) (e : Ending) (w' : World) : Prop :=
  e = .returned (.tuple #[.int .i64 (zag (vget l).1), .int .i64 ((vget l).2.1 : Nat), .int .i64 ((vget l).2.2 : Nat)]) ∧ Below w.heap.size w w'
set_option maxRecDepth 100000 in
set_option maxHeartbeats 1000000 in
theorem vreadInt_any (w : World) (D : Nat → Prop) (A : Option Addr) (len c : Nat) (l : List Nat) (hl : l.length = len) (hb : ∀ j, l.getD j 0 < 256) (hsl : Sl w D A len (byteC l)) (hm : len ≤ 9223372036854775807) (hv : HErr w) :
    Calls Tryd.prog 36 #[.slice A len c] w (VIntPost l w) := by
  have HS := Lib.hid (And.intro hl (And.intro hb (And.intro hsl (And.intro hm hv))))
  clear hl hb hsl hm hv
  go_enter Tryd.func36, Tryd.ntmps36
  go_wp2_with fail
  refine (vread_any w D A len c l HS.out.1 HS.out.2.1 HS.out.2.2.1 HS.out.2.2.2.1 HS.out.2.2.2.2).mono ?_
  rintro e w1 ⟨rfl, hb⟩
  obtain ⟨u, hu⟩ : ∃ u, u = (vget l).1 := ⟨_, rfl⟩
  obtain ⟨n, hn⟩ : ∃ n, n = (vget l).2.1 := ⟨_, rfl⟩
  obtain ⟨k, hk⟩ : ∃ k, k = (vget l).2.2 := ⟨_, rfl⟩
  have hu2 := (vget_lt l).1
  rw [← hu] at hu2
  rw [← hu, ← hn, ← hk]
  have HU := Lib.hid (And.intro hu (And.intro hn (And.intro hk hb)))
  clear hu hn hk hb
  go_wp2_with fail
  refine (zag_any u _ hu2).mono ?_
  rintro e w2 ⟨rfl, rfl⟩
  obtain ⟨z, hz⟩ : ∃ z, z = zag u := ⟨_, rfl⟩
  rw [← hz]
  have HZ := Lib.hid hz
  clear hz
  go_wp2_with fail
  go_ret3
  exact ⟨by rw [← HU.out.1, ← HU.out.2.1, ← HU.out.2.2.1, ← HZ.out]; rfl, HU.out.2.2.2⟩
/-- A text of bytes: it, how many bytes it has with its number, what is wrong. -/
def vtext (l : List Nat) (most : Int) : List Nat × Nat × Nat :=
  if (vget l).2.2 ≠ 0 then ([], 0, (vget l).2.2)
  else if most < 0 ∨ most < (vget l).1 then ([], 0, 3)
  else if l.length - (vget l).2.1 < (vget l).1 then ([], 0, 10)
  else ((l.drop (vget l).2.1).take (vget l).1, (vget l).2.1 + (vget l).1, 0)
theorem vtext_eq (l : List Nat) (most : Int) : vtext l most = (if (vget l).2.2 ≠ 0 then ([], 0, (vget l).2.2)
  else if most < 0 ∨ most < (vget l).1 then ([], 0, 3)
  else if l.length - (vget l).2.1 < (vget l).1 then ([], 0, 10)
  else ((l.drop (vget l).2.1).take (vget l).1, (vget l).2.1 + (vget l).1, 0)) := rfl
def VTextPost (l : List Nat) (most : Int) (w : World) (e : Ending) (w' : World) : Prop :=
  e = .returned (.tuple #[.string (strB (vtext l most).1), .int .i64 ((vtext l most).2.1 : Nat), .int .i64 ((vtext l most).2.2 : Nat)]) ∧ Below w.heap.size w w'
end Go.Proofs.YthhgnngpaagagaaDoor
