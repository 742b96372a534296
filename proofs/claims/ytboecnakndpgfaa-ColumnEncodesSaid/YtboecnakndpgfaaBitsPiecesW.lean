/-
  The walk of the law BitsPieces. (Printed by genBitsPieces.py.)
-/
import Derived.Test.YtboecnakndpgfaaBitsBy
import Derived.Test.YtboecnakndpgfaaBitsRr
import Derived.Test.YtboecnakndpgfaaPackB
import Derived.Test.YtboecnakndpgfaaReg
import Derived.Test.YtboecnakndpgfaaConv
namespace Go.Proofs.Ytboecnakndpgfaa
open Go.RowKit
set_option linter.unusedSimpArgs false
set_option linter.unusedVariables false
theorem put_fit (w : World) (a : Nat) (g : Option Nat) (L : List Nat) (v n : Int) (h : Wr w a g L) (h0 : 0 ≤ v) (hv : v < 18446744073709551616) (n0 : 0 ≤ n) (n64 : n ≤ 64) (hl : (L.length : Int) + 64 ≤ 8388608) :
    Calls Try.prog 19 #[.pointer (some ⟨a, 0, none⟩), .int .u64 v, .int .i64 n] w (PutPost w a g (L ++ bitsTo v.toNat n.toNat n.toNat) 0) := by
  obtain ⟨v, rfl⟩ := Int.eq_ofNat_of_zero_le h0
  obtain ⟨n, rfl⟩ := Int.eq_ofNat_of_zero_le n0
  exact put_ok w a g L v n h (by omega) (by omega) (by omega)
theorem and_mask_walk (x a : Nat) (hx : x < 18446744073709551616) (ha : a < 64) : bits .and .u64 (x : Int) (IntKind.u64.wrap (IntKind.u64.wrap ((2 : Int) ^ a) - 1)) = (x : Int) % 2 ^ a := by
  have hp : 2 ^ a ≤ 2 ^ 63 := Nat.pow_le_pow_right (by omega) (by omega)
  have h0 : 0 < 2 ^ a := Nat.pow_pos (by omega)
  have e : IntKind.u64.wrap (IntKind.u64.wrap ((2 : Int) ^ a) - 1) = ((2 ^ a - 1 : Nat) : Int) := by
    rw [pow_cast, IntKind.wrap_u64, IntKind.wrap_u64]
    omega
  rw [e, and_mask_u64 x a hx ha, pow_cast]
  rfl
theorem wr_wr {w w' : World} {x y : Nat} {g g' : Option Nat} {L M : List Nat} (hx : Wr w x g L) (hy : Wr w y g' M) (hxy : x ≠ y) (hg : ∀ k, g = some k → g' ≠ some k) (hk : Keeps (fun k => k = y ∨ some k = g') w w') : Wr w' x g L := by
  obtain ⟨h1, h2, v, hv, hb, ho⟩ := hx
  obtain ⟨_, _, v', hv', hb', ho'⟩ := hy
  refine Wr.keeps ⟨h1, h2, v, hv, hb, ho⟩ hk ?_ ?_
  · rintro (e | e)
    · exact hxy e
    · exact own_ne ho' hb (by decide) (hv'.trans e.symm)
  · rintro k hk' (e | e)
    · exact own_ne ho hb' (by decide) (by rw [hv, hk', e])
    · exact hg k hk' e.symm
theorem keeps_new {w0 w w' : World} {x : Nat} {g : Option Nat} (h : Keeps (fun _ => False) w0 w) (hk : Keeps (fun k => k = x ∨ some k = g) w w') (hx : w0.heap.size ≤ x) (hg : ∀ q, g = some q → w0.heap.size ≤ q) : Keeps (fun _ => False) w0 w' :=
  h.trans hk (fun k hk' e => by
    rcases e with e | e
    · omega
    · have := hg k e.symm; omega)
theorem moved_new {w0 w : World} {g g' : Option Nat} (hm : Moved w g g') (hs : w0.heap.size ≤ w.heap.size) (hg : ∀ q, g = some q → w0.heap.size ≤ q) : ∀ q, g' = some q → w0.heap.size ≤ q := by
  intro q hq
  rcases hm with h | ⟨k, h, hk⟩
  · exact hg q (h ▸ hq)
  · rw [hq] at h; injection h with h; omega
theorem moved_ne {w : World} {x : Nat} {g g1 g2 : Option Nat} {L : List Nat} (hx : Wr w x g L) (hm : Moved w g1 g2) (hg : ∀ k, g = some k → g1 ≠ some k) : ∀ k, g = some k → g2 ≠ some k := by
  intro k hk e
  rcases hm with h | ⟨q, h, hq⟩
  · exact hg k hk (h ▸ e)
  · rw [e] at h; injection h with h
    subst hk
    have := hx.glt
    omega
theorem sl_of_bytes {w : World} {base c n : Nat} {A : Option Addr} {bs : List Nat} (ho : w.ownsRow base 5 1 (.slice A n c) n (bs.map byteV)) : Sl w (fun k => base ≤ k ∧ k < w.heap.size) A n (byteC bs) := by
  refine (Sl.of_own (f := byteC bs) ho ?_).mono (fun k hk => ho.lt k hk)
  intro j u hu
  rw [List.getElem?_map] at hu
  cases hb : bs[j]? with
  | none => rw [hb] at hu; cases hu
  | some b =>
    rw [hb] at hu
    simp at hu
    unfold byteC
    rw [List.getD_eq_getElem?_getD, hb, ← hu]
    rfl

end Go.Proofs.Ytboecnakndpgfaa
