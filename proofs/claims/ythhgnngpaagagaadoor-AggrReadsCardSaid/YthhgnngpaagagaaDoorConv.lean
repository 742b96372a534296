/-
  Bytes as a string.
-/
import Derived.Test.YthhgnngpaagagaaDoorArgs
import Derived.Laws.BytesArg
namespace Go.Proofs.YthhgnngpaagagaaDoor
open Go.RowKit
/-- The string of bytes. -/
def strB (bs : List Nat) : ByteArray := ⟨(bs.map fun b => UInt8.ofNat b).toArray⟩
theorem conv_sl {P : Program} {w : World} {D : Nat → Prop} {A : Option Addr} {len c : Nat} {bs : List Nat} (src e dst : TypeId) (hs : P.underlying src = some (.slice e)) (he : P.underlying e = some (.int .u8)) (hd : P.underlying dst = some .string)
    (hl : bs.length = len) (h : Sl w D A len (byteC bs)) : (convert src dst (.slice A len c)).run P w = .ok (.string (strB bs)) w := by
  rcases Nat.eq_zero_or_pos len with h0 | h0
  · subst h0
    obtain rfl : bs = [] := List.eq_nil_of_length_eq_zero hl
    rw [run_convert_bytes_string w src dst e _ 0 c hs he hd]
    cases A with
    | none => simp [Conv.bytesToString]; rfl
    | some a =>
      have := run_bytesToString (P := P) w a 0 c [] (run_loadCells_list (P := P) w a [] (fun j v hj => by simp at hj))
      exact this
  · obtain ⟨b, off, rfl, -, hc⟩ := h h0
    have := run_convert_bytes_arg (P := P) w src e hs he b off len c (bs.map fun b : Nat => (b : Int)) (by simpa using hl) (fun i hi => by
      rw [hc i hi]
      unfold byteC
      rw [List.getD_eq_getElem?_getD, List.getD_eq_getElem?_getD, List.getElem?_map, List.getElem?_eq_getElem (by omega)]
      rfl) dst hd
    rw [this]
    unfold strB strOfNums
    simp
theorem strB_inj {a b : List Nat} (ha : ∀ j, a.getD j 0 < 256) (hb : ∀ j, b.getD j 0 < 256) (h : strB a = strB b) : a = b := by
  unfold strB at h
  injection h with h
  have h2 : a.map (fun b => UInt8.ofNat b) = b.map (fun b => UInt8.ofNat b) := by simpa using h
  have hl : a.length = b.length := by simpa using congrArg List.length h2
  apply List.ext_getElem hl
  intro i h1 h3
  have h4 : (a.map (fun b => UInt8.ofNat b))[i]? = (b.map (fun b => UInt8.ofNat b))[i]? := by rw [h2]
  rw [List.getElem?_map, List.getElem?_map, List.getElem?_eq_getElem h1, List.getElem?_eq_getElem h3] at h4
  simp at h4
  have a1 := ha i
  have b1 := hb i
  rw [List.getD_eq_getElem?_getD, List.getElem?_eq_getElem h1] at a1
  rw [List.getD_eq_getElem?_getD, List.getElem?_eq_getElem h3] at b1
  have := congrArg UInt8.toNat h4
  simp at this a1 b1
  omega
theorem conv_own {P : Program} {w : World} {base : Nat} {A : Option Addr} {len c : Nat} {bs : List Nat} (src e dst : TypeId) (hs : P.underlying src = some (.slice e)) (he : P.underlying e = some (.int .u8)) (hd : P.underlying dst = some .string)
    (hl : bs.length = len) (h : w.ownsRow base e 1 (.slice A len c) len (bs.map fun b : Nat => Value.int .u8 (b : Int))) : (convert src dst (.slice A len c)).run P w = .ok (.string (strB bs)) w := by
  refine conv_sl src e dst hs he hd hl (Sl.of_own h ?_)
  intro j u hu
  rw [List.getElem?_map] at hu
  cases hb : bs[j]? with
  | none => rw [hb] at hu; cases hu
  | some b =>
    rw [hb] at hu
    simp at hu
    unfold byteC
    rw [List.getD_eq_getElem?_getD, hb, ← hu]
    rfl
end Go.Proofs.YthhgnngpaagagaaDoor
