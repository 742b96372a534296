/-
  A row of numbers of 64 bits that came in, as a function; such rows as elements; xorval.Encode where there are too many.
-/
import Derived.Test.YtllmdgbaidkmfaaArgs
import Derived.Test.YtllmdgbaidkmfaaConv
import Derived.Test.YtllmdgbaidkmfaaXorE
namespace Go.Proofs.Ytllmdgbaidkmfaa
open Go.RowKit
set_option linter.unusedVariables false
set_option linter.unusedSimpArgs false
theorem u64Elem : Elem1 Try.prog 22 30 (.int .u64 0) 8 := Elem1.mk' Try.underlying22 rfl (by kernel_rfl)
theorem wf_u64 {z : Int} (h : (Lit.int .u64 z).wf = true) : 0 ≤ z ∧ z < 18446744073709551616 := by
  simp [Lit.wf, IntKind.min, IntKind.max, IntKind.signed, IntKind.bits] at h
  omega
theorem IsRow.u64s {w : World} {a : Option Addr} {len cap : Nat} {zs : List Int} (h : IsRow .u64 w a len cap zs) (m : Nat) (hm : m ≤ len) :
    ∃ f : Nat → Nat, (∀ j, f j < 18446744073709551616) ∧ Sl w (fun x => x < w.heap.size) a m (fun j => .int .u64 (f j : Nat)) := by
  refine ⟨fun j => if j < len then (zs.getD j 0).toNat else 0, fun j => ?_, (h.sl m hm).congr fun j hj => ?_⟩
  · dsimp only
    split
    · rename_i hj
      have := wf_u64 (h.wf j hj)
      omega
    · omega
  · have := wf_u64 (h.wf j (by omega))
    dsimp only
    rw [if_pos (by omega : j < len)]
    congr 1
    omega
set_option maxHeartbeats 400000 in
theorem xencode_big (w : World) (A : Option Addr) (len c : Nat) (hlen : 4096 < len) (hl : len ≤ 9223372036854775807) :
    Calls Try.prog 8 #[.slice A len c] w fun e w' => e = .returned (.tuple #[.slice none 0 0, .int .i64 3]) ∧ w = w' := by
  go_enter Try.func8, Try.ntmps8
  go_wp2
  go_step3
  go_wp2
  rw [Exit.noGoto_ret]
  go_ret2
  exact ⟨rfl, rfl⟩
end Go.Proofs.Ytllmdgbaidkmfaa
