/-
  The contract of tidemilllaw06.words, and words for the laws' walks.
-/
import Derived.Test.YtllmdgbaidkmfaaXorDPl
import Derived.Test.YtllmdgbaidkmfaaU64s
import Derived.Test.YtllmdgbaidkmfaaConv
namespace Go.Proofs.Ytllmdgbaidkmfaa
open Go.RowKit
set_option linter.unusedVariables false
set_option linter.unusedSimpArgs false
theorem row_bytes {w : World} {base : Nat} {A : Option Addr} {n c : Nat} {bs : List Nat} (hn : bs.length = n) (h : w.ownsRow base 5 1 (.slice A n c) n (bs.map byteV)) : Sl w (fun k => (Value.slice A n c).ownBlock = some k) A n (byteC bs) := by
  refine Sl.of_own h ?_
  intro j u hu
  rw [List.getElem?_map] at hu
  cases hj : bs[j]? with
  | none => rw [hj] at hu; cases hu
  | some x => rw [hj] at hu; injection hu with hu; unfold byteC; rw [List.getD_eq_getElem?_getD, hj]; exact hu.symm
theorem pack_byte (L : List Nat) (h : ∀ j, L.getD j 0 < 2) (j : Nat) : (pack L).getD j 0 < 256 := by rw [pack_getD]; exact byteAt_lt h j
set_option maxRecDepth 100000 in
set_option maxHeartbeats 800000 in
theorem words_eq (w : World) (A B : Option Addr) (len c c' : Nat) (D E : Nat → Prop) (f : Nat → Nat) (ha : Sl w D A len (fun j => .int .u64 (f j : Nat))) (hb : Sl w E B len (fun j => .int .u64 (f j : Nat))) (hlen : len ≤ 1048576) :
    Calls Try.prog 11 #[.slice A len c, .slice B len c'] w fun e w' => e = .returned (.bool true) ∧ ∃ k, w' = w.drewN k := by
  have HH := Lib.hid (And.intro ha hb)
  clear ha hb
  go_enter Try.func11, Try.ntmps11
  go_wp2_with fail
  go_loopw [5] (fun i wr => ∃ k m : Nat, k ≤ len ∧ i = .int .i64 k ∧ wr = w.drewN m) (fun i _ => len - (intOf i).toNat)
  case atStart => exact ⟨0, 0, Nat.zero_le _, rfl, rfl⟩
  case round =>
    obtain ⟨k, m, hk, rfl, rfl⟩ := hrel
    by_cases hlt : k < len
    · obtain ⟨b, off, hA, -, hca⟩ := HH.out.1 (by omega)
      obtain ⟨b', off', hB, -, hcb⟩ := HH.out.2 (by omega)
      have ca : w.cell? ⟨b, off + k, none⟩ = some (.int .u64 (f k : Nat)) := hca k hlt
      have cb : w.cell? ⟨b', off' + k, none⟩ = some (.int .u64 (f k : Nat)) := hcb k hlt
      subst hA
      subst hB
      clear hca hcb
      obtain ⟨x, hx⟩ : ∃ x, x = f k := ⟨_, rfl⟩
      rw [← hx] at ca cb
      clear hx
      have hki : (k : Int) < (len : Int) := by omega
      have hk0 : (0 : Int) ≤ (k : Int) := by omega
      have hkn : ((k : Int)).toNat = k := by omega
      go_wp2_with fail
      go_quiet (fail)
      clear hkn
      go_wp2_with fail
      go_roundw
      case rel => exact ⟨k + 1, _, by omega, by go_num, rfl⟩
      case measure => simp [intOf]; omega
    · go_wp2_with fail
      go_ret
      exact ⟨rfl, _, rfl⟩
end Go.Proofs.Ytllmdgbaidkmfaa
