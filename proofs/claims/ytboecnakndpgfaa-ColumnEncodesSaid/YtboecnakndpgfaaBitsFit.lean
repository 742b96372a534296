/-
  Words for callers of the bits: for seats without the texts BitsPiecesW and BitsRr.
-/
import Derived.Test.YtboecnakndpgfaaBitsRy
namespace Go.Proofs.Ytboecnakndpgfaa
open Go.RowKit
set_option linter.unusedSimpArgs false
set_option linter.unusedVariables false
theorem put_fit (w : World) (a : Nat) (g : Option Nat) (L : List Nat) (v n : Int) (h : Wr w a g L) (h0 : 0 ≤ v) (hv : v < 18446744073709551616) (n0 : 0 ≤ n) (n64 : n ≤ 64) (hl : (L.length : Int) + 64 ≤ 8388608) :
    Calls Try.prog 19 #[.pointer (some ⟨a, 0, none⟩), .int .u64 v, .int .i64 n] w (PutPost w a g (L ++ bitsTo v.toNat n.toNat n.toNat) 0) := by
  obtain ⟨v, rfl⟩ := Int.eq_ofNat_of_zero_le h0
  obtain ⟨n, rfl⟩ := Int.eq_ofNat_of_zero_le n0
  exact put_ok w a g L v n h (by omega) (by omega) (by omega)
theorem rput_fit (w : World) (a : Nat) (g : Option Nat) (L : List Nat) (v n : Int) (h : RWr w a g L) (h0 : 0 ≤ v) (hv : v < 18446744073709551616) (n0 : 0 ≤ n) (n64 : n ≤ 64) (hl : (L.length : Int) + 64 ≤ 8388608) :
    Calls Try.prog 30 #[.pointer (some ⟨a, 0, none⟩), .int .u64 v, .int .i64 n] w (RPutPost w a g (L ++ bitsTo v.toNat n.toNat n.toNat) 0) := by
  obtain ⟨v, rfl⟩ := Int.eq_ofNat_of_zero_le h0
  obtain ⟨n, rfl⟩ := Int.eq_ofNat_of_zero_le n0
  exact rput_ok w a g L v n h (by omega) (by omega) (by omega)
theorem keeps_new {w0 w w' : World} {x : Nat} {g : Option Nat} (h : Keeps (fun _ => False) w0 w) (hk : Keeps (fun k => k = x ∨ some k = g) w w') (hx : w0.heap.size ≤ x) (hg : ∀ q, g = some q → w0.heap.size ≤ q) : Keeps (fun _ => False) w0 w' :=
  h.trans hk (fun k hk' e => by
    rcases e with e | e
    · omega
    · have := hg k e.symm; omega)
theorem moved_new {w0 w : World} {g g' : Option Nat} (hm : Moved w g g') (hs : w0.heap.size ≤ w.heap.size) (hg : ∀ q, g = some q → w0.heap.size ≤ q) : ∀ q, g' = some q → w0.heap.size ≤ q := by
  intro q hq
  rcases hm with h | ⟨k, h, hk⟩
  · exact hg q (h ▸ hq)
  · rw [hq] at h; injection h with h; omega
theorem RWr.drewN {w : World} {a : Nat} {g : Option Nat} {L : List Nat} (h : RWr w a g L) : RWr w.drew a g L := h.keeps (S := fun _ => False) (Keeps.refl _ w).drew (fun h => h) (fun _ _ h => h)
end Go.Proofs.Ytboecnakndpgfaa
