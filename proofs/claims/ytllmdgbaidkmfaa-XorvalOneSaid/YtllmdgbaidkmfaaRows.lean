/-
  No cell of these rows narrows 'for every input' (looked for: loops, veiled, ifaces, maps, wideKeys, modest, calm, conditions, laid).
  DERIVED. THE GIVEN ROWS OF THIS SEAT. 5 by the template 'for every input the law returns true; each argument reads behind the call as it read before'; 0 by the template 'total and deterministic' (their statements: YtllmdgbaidkmfaaTotals.lean).
  GIVEN WITH THE SEED: the statements are not yours to turn. If you find one false, say at which input.
  Laid BY PROGRAM, IN A SANDBOX (cutbox-rows.mjs): the forced cells as the released guide's own fill.sh prints them over the translation cd8b5693e1458925… (all of the seat's roots in one cut). By AI agents, Wed Nov 11 2026. No macro, syntax, notation, axiom, sorry.
-/
import Derived.Test.YtllmdgbaidkmfaaChecked
import GoSem.Claim
import GoSem.ClaimJoined
import GoSem.ClaimMapViews
import Derived.JoinedTies
import Derived.KernelRfl
namespace Go.Proofs.Ytllmdgbaidkmfaa
/- THE CELL 'sum', in the pinned program and in every row, IS THE sha256 OF THE DUMP (.gsa) THAT YtllmdgbaidkmfaaProg.lean LOADS. Nothing in Lean hashes anything: it is a label: what it is worth is what the hold of that sum in a sandbox is worth. -/
noncomputable def Try.pinned : Pinned := { name := "ytllmdgbaidkmfaa", sum := "cd8b5693e145892546d71a1abad280f3ea92f38ea98ea6d696e7eec85c796e14", checked := Try.checked }
namespace Rows
def none {H : Type} : Left H := { results := [], args := [] }

/-- 'tidemilllaw06.XorvalEncodes': WHATEVER THE INPUT: true; the input reads as it did. -/
def xorvalEncodesSpec : ChangeSpec := { name := "xorvalEncodes", fn := fun _ => fun
  | [d] => { results := [.lit (.bool true)], args := [d] }
  | _ => none }
def xorvalEncodesRow : OpenClaim := { program := "ytllmdgbaidkmfaa", sum := "cd8b5693e145892546d71a1abad280f3ea92f38ea98ea6d696e7eec85c796e14", func := "tidemill/tidemilllaw06.XorvalEncodes", spec := "xorvalEncodes", unfollowed := true, recurses := true, apart := false }
def XorvalEncodesSaid : Prop := xorvalEncodesRow.holds Try.pinned (OpenSpec.ofChange xorvalEncodesSpec)

/-- ITS FALSE NEIGHBOUR: 'it returns false'. Refute it at one input. -/
def xorvalEncodesWrong : ChangeSpec := { name := "xorvalEncodes", fn := fun _ => fun
  | [d] => { results := [.lit (.bool false)], args := [d] }
  | _ => none }
def XorvalEncodesWrongFalsely : Prop := xorvalEncodesRow.holds Try.pinned (OpenSpec.ofChange xorvalEncodesWrong)

/-- 'tidemilllaw06.XorvalSame': WHATEVER THE INPUT: true; the input reads as it did. -/
def xorvalSameSpec : ChangeSpec := { name := "xorvalSame", fn := fun _ => fun
  | [d1, d2, d3] => { results := [.lit (.bool true)], args := [d1, d2, d3] }
  | _ => none }
def xorvalSameRow : OpenClaim := { program := "ytllmdgbaidkmfaa", sum := "cd8b5693e145892546d71a1abad280f3ea92f38ea98ea6d696e7eec85c796e14", func := "tidemill/tidemilllaw06.XorvalSame", spec := "xorvalSame", unfollowed := true, recurses := true, apart := false }
def XorvalSameSaid : Prop := xorvalSameRow.holds Try.pinned (OpenSpec.ofChange xorvalSameSpec)

/-- ITS FALSE NEIGHBOUR: 'it returns false'. Refute it at one input. -/
def xorvalSameWrong : ChangeSpec := { name := "xorvalSame", fn := fun _ => fun
  | [d1, d2, d3] => { results := [.lit (.bool false)], args := [d1, d2, d3] }
  | _ => none }
def XorvalSameWrongFalsely : Prop := xorvalSameRow.holds Try.pinned (OpenSpec.ofChange xorvalSameWrong)

/-- 'tidemilllaw06.XorvalTurns': WHATEVER THE INPUT: true; the input reads as it did. -/
def xorvalTurnsSpec : ChangeSpec := { name := "xorvalTurns", fn := fun _ => fun
  | [d1, d2] => { results := [.lit (.bool true)], args := [d1, d2] }
  | _ => none }
def xorvalTurnsRow : OpenClaim := { program := "ytllmdgbaidkmfaa", sum := "cd8b5693e145892546d71a1abad280f3ea92f38ea98ea6d696e7eec85c796e14", func := "tidemill/tidemilllaw06.XorvalTurns", spec := "xorvalTurns", unfollowed := true, recurses := true, apart := false }
def XorvalTurnsSaid : Prop := xorvalTurnsRow.holds Try.pinned (OpenSpec.ofChange xorvalTurnsSpec)

/-- ITS FALSE NEIGHBOUR: 'it returns false'. Refute it at one input. -/
def xorvalTurnsWrong : ChangeSpec := { name := "xorvalTurns", fn := fun _ => fun
  | [d1, d2] => { results := [.lit (.bool false)], args := [d1, d2] }
  | _ => none }
def XorvalTurnsWrongFalsely : Prop := xorvalTurnsRow.holds Try.pinned (OpenSpec.ofChange xorvalTurnsWrong)

/-- 'tidemilllaw06.XorvalBack': WHATEVER THE INPUT: true; the input reads as it did. -/
def xorvalBackSpec : ChangeSpec := { name := "xorvalBack", fn := fun _ => fun
  | [d] => { results := [.lit (.bool true)], args := [d] }
  | _ => none }
def xorvalBackRow : OpenClaim := { program := "ytllmdgbaidkmfaa", sum := "cd8b5693e145892546d71a1abad280f3ea92f38ea98ea6d696e7eec85c796e14", func := "tidemill/tidemilllaw06.XorvalBack", spec := "xorvalBack", unfollowed := true, recurses := true, apart := false }
def XorvalBackSaid : Prop := xorvalBackRow.holds Try.pinned (OpenSpec.ofChange xorvalBackSpec)

/-- ITS FALSE NEIGHBOUR: 'it returns false'. Refute it at one input. -/
def xorvalBackWrong : ChangeSpec := { name := "xorvalBack", fn := fun _ => fun
  | [d] => { results := [.lit (.bool false)], args := [d] }
  | _ => none }
def XorvalBackWrongFalsely : Prop := xorvalBackRow.holds Try.pinned (OpenSpec.ofChange xorvalBackWrong)

/-- 'tidemilllaw06.XorvalOne': WHATEVER THE INPUT: true; the input reads as it did. -/
def xorvalOneSpec : ChangeSpec := { name := "xorvalOne", fn := fun _ => fun
  | [d1, d2] => { results := [.lit (.bool true)], args := [d1, d2] }
  | _ => none }
def xorvalOneRow : OpenClaim := { program := "ytllmdgbaidkmfaa", sum := "cd8b5693e145892546d71a1abad280f3ea92f38ea98ea6d696e7eec85c796e14", func := "tidemill/tidemilllaw06.XorvalOne", spec := "xorvalOne", unfollowed := true, recurses := true, apart := false }
def XorvalOneSaid : Prop := xorvalOneRow.holds Try.pinned (OpenSpec.ofChange xorvalOneSpec)

/-- ITS FALSE NEIGHBOUR: 'it returns false'. Refute it at one input. -/
def xorvalOneWrong : ChangeSpec := { name := "xorvalOne", fn := fun _ => fun
  | [d1, d2] => { results := [.lit (.bool false)], args := [d1, d2] }
  | _ => none }
def XorvalOneWrongFalsely : Prop := xorvalOneRow.holds Try.pinned (OpenSpec.ofChange xorvalOneWrong)

/- THE SECOND FORM. 'bulk': how many values and letters a reading holds, each counted each time it is reached (what is shared counts as often as it is met; a slice's spare places count too). A statement '..UptoSaid' is the law's where the arguments, and the package variables that the reading takes, are together of bulk at most 1048576: NARROWER than '..Said'. Prove '..Said' where nothing that the law and all that it calls make is longer than what came in: it says more and counts as full. Else prove '..UptoSaid'. A law counts once. -/
mutual
def uptoBulk {H : Type} : DataW H → Nat
  | .lit (.string bytes) => bytes.length + 1
  | .lit _ => 1
  | .nil => 1
  | .ptr d => uptoBulk d + 1
  | .slice elems spare => uptoBulkAll elems + uptoBulkAll spare + 1
  | .agg parts => uptoBulkAll parts + 1
  | .iface _ d => uptoBulk d + 1
  | .map entries => uptoBulkEntries entries + 1
  | .held _ => 1
def uptoBulkAll {H : Type} : List (DataW H) → Nat
  | [] => 0
  | d :: r => uptoBulk d + uptoBulkAll r
def uptoBulkEntries {H : Type} : List (Lit × DataW H) → Nat
  | [] => 0
  | x :: r => uptoBulkEntry x + uptoBulkEntries r
def uptoBulkEntry {H : Type} : Lit × DataW H → Nat
  | (.string bytes, d) => bytes.length + uptoBulk d + 1
  | (_, d) => uptoBulk d + 1
 end
def uptoSmall : (H : Type) → List (DataW H) → Bool := fun _ ds => decide (uptoBulkAll ds ≤ 1048576)
def OpenSpec.upto (s : _root_.Go.ChangeSpec) : _root_.Go.OpenSpec := { _root_.Go.OpenSpec.ofChange s with cond := some uptoSmall }

/-- 'tidemilllaw06.XorvalEncodes', WHERE WHAT IT READS IS OF BULK AT MOST 1048576: true; the input reads as it did. -/
def xorvalEncodesUptoRow : OpenClaim := { program := "ytllmdgbaidkmfaa", sum := "cd8b5693e145892546d71a1abad280f3ea92f38ea98ea6d696e7eec85c796e14", func := "tidemill/tidemilllaw06.XorvalEncodes", spec := "xorvalEncodes", unfollowed := true, recurses := true, apart := false, narrowed := true }
def XorvalEncodesUptoSaid : Prop := xorvalEncodesUptoRow.holds Try.pinned (OpenSpec.upto xorvalEncodesSpec)

/-- 'tidemilllaw06.XorvalSame', WHERE WHAT IT READS IS OF BULK AT MOST 1048576: true; the input reads as it did. -/
def xorvalSameUptoRow : OpenClaim := { program := "ytllmdgbaidkmfaa", sum := "cd8b5693e145892546d71a1abad280f3ea92f38ea98ea6d696e7eec85c796e14", func := "tidemill/tidemilllaw06.XorvalSame", spec := "xorvalSame", unfollowed := true, recurses := true, apart := false, narrowed := true }
def XorvalSameUptoSaid : Prop := xorvalSameUptoRow.holds Try.pinned (OpenSpec.upto xorvalSameSpec)

/-- 'tidemilllaw06.XorvalTurns', WHERE WHAT IT READS IS OF BULK AT MOST 1048576: true; the input reads as it did. -/
def xorvalTurnsUptoRow : OpenClaim := { program := "ytllmdgbaidkmfaa", sum := "cd8b5693e145892546d71a1abad280f3ea92f38ea98ea6d696e7eec85c796e14", func := "tidemill/tidemilllaw06.XorvalTurns", spec := "xorvalTurns", unfollowed := true, recurses := true, apart := false, narrowed := true }
def XorvalTurnsUptoSaid : Prop := xorvalTurnsUptoRow.holds Try.pinned (OpenSpec.upto xorvalTurnsSpec)

/-- 'tidemilllaw06.XorvalBack', WHERE WHAT IT READS IS OF BULK AT MOST 1048576: true; the input reads as it did. -/
def xorvalBackUptoRow : OpenClaim := { program := "ytllmdgbaidkmfaa", sum := "cd8b5693e145892546d71a1abad280f3ea92f38ea98ea6d696e7eec85c796e14", func := "tidemill/tidemilllaw06.XorvalBack", spec := "xorvalBack", unfollowed := true, recurses := true, apart := false, narrowed := true }
def XorvalBackUptoSaid : Prop := xorvalBackUptoRow.holds Try.pinned (OpenSpec.upto xorvalBackSpec)

/-- 'tidemilllaw06.XorvalOne', WHERE WHAT IT READS IS OF BULK AT MOST 1048576: true; the input reads as it did. -/
def xorvalOneUptoRow : OpenClaim := { program := "ytllmdgbaidkmfaa", sum := "cd8b5693e145892546d71a1abad280f3ea92f38ea98ea6d696e7eec85c796e14", func := "tidemill/tidemilllaw06.XorvalOne", spec := "xorvalOne", unfollowed := true, recurses := true, apart := false, narrowed := true }
def XorvalOneUptoSaid : Prop := xorvalOneUptoRow.holds Try.pinned (OpenSpec.upto xorvalOneSpec)

end Rows
end Go.Proofs.Ytllmdgbaidkmfaa
