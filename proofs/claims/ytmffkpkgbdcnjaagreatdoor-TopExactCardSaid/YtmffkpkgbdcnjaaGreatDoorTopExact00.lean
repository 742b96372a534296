/-
  Two short words of this proof.
-/
import Derived.Below
import Derived.Laws.OwnMore
import Derived.OwnWalk
namespace Go.Proofs.YtmffkpkgbdcnjaaGreatDoor
section
theorem J {p : Prop} (h : p := by omega) : p := h
@[reducible, go_sem] def Z := Value.int .i64
end
end Go.Proofs.YtmffkpkgbdcnjaaGreatDoor
