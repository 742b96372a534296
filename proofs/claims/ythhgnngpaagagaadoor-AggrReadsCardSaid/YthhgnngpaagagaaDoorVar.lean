/-
  The contracts of varint.Put and of tidemillref03.Put.
-/
import Derived.Test.YthhgnngpaagagaaDoorRows
import Derived.Test.YthhgnngpaagagaaDoorTl
import Derived.Test.YthhgnngpaagagaaDoorVarPl
import Derived.WalkKit
import Derived.WalkSpells
import Derived.WalkLawsBesides
import Derived.Outline
import Derived.Lib.Hide
namespace Go.Proofs.YthhgnngpaagagaaDoor
open Go.RowKit
def byteV (b : Nat) : Value := .int .u8 (b : Int)
theorem byteElem : Elem1 Tryd.prog 29 5 (.int .u8 0) 1 := Elem1.mk' Tryd.underlying29 rfl (by kernel_rfl)
def VPutPost (w : World) (bs : List Nat) (e : Ending) (w' : World) : Prop :=
  ∃ v, e = .returned v ∧ w'.ownsRow w.heap.size 5 1 v bs.length (bs.map byteV) ∧ Below w.heap.size w w'
theorem tl_of_sl {w : World} {A : Option Addr} {bs : List Nat} {len : Nat} (hl : bs.length = len) (h : Sl w (fun k => k < w.heap.size) A len (byteC bs)) : Tl w 5 w.heap.size (.slice A len len) len (bs.map byteV) := by
  refine .inr ⟨A, rfl, by simpa using hl, fun hn => ?_⟩
  obtain ⟨b, off, rfl, hb, hc⟩ := h hn
  refine ⟨b, off, rfl, hb, fun j u hu => ?_⟩
  rw [List.getElem?_map] at hu
  cases hj : bs[j]? with
  | none => rw [hj] at hu; cases hu
  | some x =>
    rw [hj] at hu
    simp at hu
    have hjl : j < bs.length := (List.getElem?_eq_some_iff.1 hj).1
    rw [hc j (by omega), ← hu]
    unfold byteC byteV
    rw [List.getD_eq_getElem?_getD, hj]
    rfl
set_option maxRecDepth 100000 in
set_option maxHeartbeats 800000 in
theorem vput_any (w : World) (A : Option Addr) (len c : Nat) (bs : List Nat) (u : Int) (hl : bs.length = len) (hsl : Sl w (fun k => k < w.heap.size) A len (byteC bs)) (hlc : len ≤ c) (hsm : len ≤ 1099511627776) (h0 : 0 ≤ u) (hu : u < 18446744073709551616) :
    Calls Tryd.prog 29 #[.slice A len c, .int .u64 u] w (VPutPost w (bs ++ vput u.toNat)) := by
  obtain ⟨u, rfl⟩ := Int.eq_ofNat_of_zero_le h0
  have HT := Lib.hid (tl_of_sl hl hsl)
  have HL := Lib.hid hl
  have HU := Lib.hid (show u < 18446744073709551616 by omega)
  clear hsl hl hu h0
  go_enter Tryd.func29, Tryd.ntmps29
  go_wp2_with fail
  go_loopw [1, 5] (fun s1 s5 wr => ∃ (x : Nat) (p : List Nat), s1 = .int .u64 x ∧ x ≤ u ∧ p ++ vput x = bs ++ vput u ∧ Tl wr 5 w.heap.size s5 p.length (p.map byteV) ∧ Below w.heap.size w wr)
    (fun s1 _ _ => (intOf s1).toNat)
  case atStart => exact ⟨u, bs, rfl, Nat.le_refl _, rfl, by rw [HL.out]; exact HT.out, Below.refl _ _⟩
  case round =>
    obtain ⟨x, p, rfl, hxu, hp, htl, hbel⟩ := hrel
    have hplen : p.length ≤ len + 10 := by
      have h1 := congrArg List.length hp
      rw [List.length_append, List.length_append] at h1
      have h2 := vput_len10 HU.out
      have h3 := HL.out
      omega
    have HP := Lib.hid hp
    clear hp
    by_cases hx : x < 128
    · go_wp2_with (at_builtin; refine wpList_append_tl (f := fun _ => byteV x) (base := w.heap.size) (n := p.length) (xs := p.map byteV) byteElem rfl (.tmp 22) (.tmp 25) rfl rfl rfl ?h ?hm ?hc ?h1 ?h63 ?hby ?hbase ?_)
      case h => exact htl.alloc hbel.size _
      case hm => omega
      case hc => exact cell_one _ _ _
      case h1 => intro j _; rfl
      case h63 => unfold maxLen; omega
      case hby => omega
      case hbase => have := hbel.size; simp; omega
      intro v1 w1 hown1 hb1
      have HO := Lib.hid hown1
      have HB := Lib.hid hb1
      clear hown1 hb1
      go_wp2_with fail
      go_ret
      refine ⟨v1, rfl, ?_, (hbel.alloc hbel.size _).trans HB.out⟩
      have e : bs ++ vput u = p ++ [x] := by rw [← HP.out, vput_small hx]
      show w1.ownsRow _ _ _ _ (bs ++ vput u).length ((bs ++ vput u).map byteV)
      rw [e, List.length_append, List.map_append]
      exact HO.out
    · have e1 := vor_step x
      have e2 := vor_step2 x
      have hx0 : 128 ≤ x := by omega
      go_wp2_with (at_builtin; refine wpList_append_tl (f := fun _ => byteV (x % 128 + 128)) (base := w.heap.size) (n := p.length) (xs := p.map byteV) byteElem rfl (.tmp 16) (.tmp 20) rfl rfl rfl ?g ?gm ?gc ?g1 ?g63 ?gby ?gbase ?_)
      case g => exact htl.alloc hbel.size _
      case gm => omega
      case gc => exact cell_one _ _ _
      case g1 => intro j _; rfl
      case g63 => unfold maxLen; omega
      case gby => omega
      case gbase => have := hbel.size; simp; omega
      intro v1 w1 hown1 hb1
      have HO := Lib.hid hown1
      have HB := Lib.hid hb1
      clear hown1 hb1 e1 e2
      go_wp2_with fail
      go_roundw
      case rel =>
        refine ⟨x / 128, p ++ [x % 128 + 128], rfl, by omega, ?_, ?_, (hbel.alloc hbel.size _).trans HB.out⟩
        · rw [← HP.out, vput_big hx, List.append_assoc]; rfl
        · rw [List.length_append, List.map_append]
          exact .inl HO.out
      case measure => simp [intOf]; omega
end Go.Proofs.YthhgnngpaagagaaDoor
