/-
  No cell of these rows narrows 'for every input' (looked for: loops, veiled, ifaces, maps, wideKeys, modest, calm, conditions, laid).
  DERIVED. THE GIVEN ROWS OF THIS SEAT. 12 by the template 'for every input the law returns true; each argument reads behind the call as it read before'; 0 by the template 'total and deterministic' (their statements: YtgphdigcilbnlaaTotals.lean).
  GIVEN WITH THE SEED: the statements are not yours to turn. If you find one false, say at which input.
  Laid BY PROGRAM, IN A SANDBOX (cutbox-rows.mjs): the forced cells as the released guide's own fill.sh prints them over the translation f94a9c7bda3693cc… (all of the seat's roots in one cut). By AI agents, Wed Nov 11 2026. No macro, syntax, notation, axiom, sorry.
-/
import Derived.Test.YtgphdigcilbnlaaChecked
import GoSem.Claim
import GoSem.ClaimJoined
import GoSem.ClaimMapViews
import Derived.JoinedTies
import Derived.KernelRfl
namespace Go.Proofs.Ytgphdigcilbnlaa
/- THE CELL 'sum', in the pinned program and in every row, IS THE sha256 OF THE DUMP (.gsa) THAT YtgphdigcilbnlaaProg.lean LOADS. Nothing in Lean hashes anything: it is a label: what it is worth is what the hold of that sum in a sandbox is worth. -/
noncomputable def Try.pinned : Pinned := { name := "ytgphdigcilbnlaa", sum := "f94a9c7bda3693cc2b0a179c0502d575f80a032c7aea274cea219bdfc1b66403", checked := Try.checked }
namespace Rows
def none {H : Type} : Left H := { results := [], args := [] }

/-- 'tidemilllaw02.BitsGets': WHATEVER THE INPUT: true; the input reads as it did. -/
def bitsGetsSpec : ChangeSpec := { name := "bitsGets", fn := fun _ => fun
  | [d1, d2, d3] => { results := [.lit (.bool true)], args := [d1, d2, d3] }
  | _ => none }
def bitsGetsRow : OpenClaim := { program := "ytgphdigcilbnlaa", sum := "f94a9c7bda3693cc2b0a179c0502d575f80a032c7aea274cea219bdfc1b66403", func := "tidemill/tidemilllaw02.BitsGets", spec := "bitsGets", apart := false }
def BitsGetsSaid : Prop := bitsGetsRow.holds Try.pinned (OpenSpec.ofChange bitsGetsSpec)

/-- ITS FALSE NEIGHBOUR: 'it returns false'. Refute it at one input. -/
def bitsGetsWrong : ChangeSpec := { name := "bitsGets", fn := fun _ => fun
  | [d1, d2, d3] => { results := [.lit (.bool false)], args := [d1, d2, d3] }
  | _ => none }
def BitsGetsWrongFalsely : Prop := bitsGetsRow.holds Try.pinned (OpenSpec.ofChange bitsGetsWrong)

/-- 'tidemilllaw02.BitsPuts': WHATEVER THE INPUT: true; the input reads as it did. -/
def bitsPutsSpec : ChangeSpec := { name := "bitsPuts", fn := fun _ => fun
  | [d] => { results := [.lit (.bool true)], args := [d] }
  | _ => none }
def bitsPutsRow : OpenClaim := { program := "ytgphdigcilbnlaa", sum := "f94a9c7bda3693cc2b0a179c0502d575f80a032c7aea274cea219bdfc1b66403", func := "tidemill/tidemilllaw02.BitsPuts", spec := "bitsPuts", unfollowed := true, recurses := true, apart := false }
def BitsPutsSaid : Prop := bitsPutsRow.holds Try.pinned (OpenSpec.ofChange bitsPutsSpec)

/-- ITS FALSE NEIGHBOUR: 'it returns false'. Refute it at one input. -/
def bitsPutsWrong : ChangeSpec := { name := "bitsPuts", fn := fun _ => fun
  | [d] => { results := [.lit (.bool false)], args := [d] }
  | _ => none }
def BitsPutsWrongFalsely : Prop := bitsPutsRow.holds Try.pinned (OpenSpec.ofChange bitsPutsWrong)

/-- 'tidemilllaw02.BitsNobody': WHATEVER THE INPUT: true; the input reads as it did. -/
def bitsNobodySpec : ChangeSpec := { name := "bitsNobody", fn := fun _ => fun
  | [d1, d2] => { results := [.lit (.bool true)], args := [d1, d2] }
  | _ => none }
def bitsNobodyRow : OpenClaim := { program := "ytgphdigcilbnlaa", sum := "f94a9c7bda3693cc2b0a179c0502d575f80a032c7aea274cea219bdfc1b66403", func := "tidemill/tidemilllaw02.BitsNobody", spec := "bitsNobody", unfollowed := true, recurses := true, apart := false }
def BitsNobodySaid : Prop := bitsNobodyRow.holds Try.pinned (OpenSpec.ofChange bitsNobodySpec)

/-- ITS FALSE NEIGHBOUR: 'it returns false'. Refute it at one input. -/
def bitsNobodyWrong : ChangeSpec := { name := "bitsNobody", fn := fun _ => fun
  | [d1, d2] => { results := [.lit (.bool false)], args := [d1, d2] }
  | _ => none }
def BitsNobodyWrongFalsely : Prop := bitsNobodyRow.holds Try.pinned (OpenSpec.ofChange bitsNobodyWrong)

/-- 'tidemilllaw02.BitsPieces': WHATEVER THE INPUT: true; the input reads as it did. -/
def bitsPiecesSpec : ChangeSpec := { name := "bitsPieces", fn := fun _ => fun
  | [d1, d2, d3] => { results := [.lit (.bool true)], args := [d1, d2, d3] }
  | _ => none }
def bitsPiecesRow : OpenClaim := { program := "ytgphdigcilbnlaa", sum := "f94a9c7bda3693cc2b0a179c0502d575f80a032c7aea274cea219bdfc1b66403", func := "tidemill/tidemilllaw02.BitsPieces", spec := "bitsPieces", unfollowed := true, recurses := true, apart := false }
def BitsPiecesSaid : Prop := bitsPiecesRow.holds Try.pinned (OpenSpec.ofChange bitsPiecesSpec)

/-- ITS FALSE NEIGHBOUR: 'it returns false'. Refute it at one input. -/
def bitsPiecesWrong : ChangeSpec := { name := "bitsPieces", fn := fun _ => fun
  | [d1, d2, d3] => { results := [.lit (.bool false)], args := [d1, d2, d3] }
  | _ => none }
def BitsPiecesWrongFalsely : Prop := bitsPiecesRow.holds Try.pinned (OpenSpec.ofChange bitsPiecesWrong)

/-- 'tidemilllaw02.BitsBack': WHATEVER THE INPUT: true; the input reads as it did. -/
def bitsBackSpec : ChangeSpec := { name := "bitsBack", fn := fun _ => fun
  | [d] => { results := [.lit (.bool true)], args := [d] }
  | _ => none }
def bitsBackRow : OpenClaim := { program := "ytgphdigcilbnlaa", sum := "f94a9c7bda3693cc2b0a179c0502d575f80a032c7aea274cea219bdfc1b66403", func := "tidemill/tidemilllaw02.BitsBack", spec := "bitsBack", unfollowed := true, recurses := true, apart := false }
def BitsBackSaid : Prop := bitsBackRow.holds Try.pinned (OpenSpec.ofChange bitsBackSpec)

/-- ITS FALSE NEIGHBOUR: 'it returns false'. Refute it at one input. -/
def bitsBackWrong : ChangeSpec := { name := "bitsBack", fn := fun _ => fun
  | [d] => { results := [.lit (.bool false)], args := [d] }
  | _ => none }
def BitsBackWrongFalsely : Prop := bitsBackRow.holds Try.pinned (OpenSpec.ofChange bitsBackWrong)

/-- 'tidemilllaw02.BitsJoins': WHATEVER THE INPUT: true; the input reads as it did. -/
def bitsJoinsSpec : ChangeSpec := { name := "bitsJoins", fn := fun _ => fun
  | [d1, d2, d3] => { results := [.lit (.bool true)], args := [d1, d2, d3] }
  | _ => none }
def bitsJoinsRow : OpenClaim := { program := "ytgphdigcilbnlaa", sum := "f94a9c7bda3693cc2b0a179c0502d575f80a032c7aea274cea219bdfc1b66403", func := "tidemill/tidemilllaw02.BitsJoins", spec := "bitsJoins", unfollowed := true, recurses := true, apart := false }
def BitsJoinsSaid : Prop := bitsJoinsRow.holds Try.pinned (OpenSpec.ofChange bitsJoinsSpec)

/-- ITS FALSE NEIGHBOUR: 'it returns false'. Refute it at one input. -/
def bitsJoinsWrong : ChangeSpec := { name := "bitsJoins", fn := fun _ => fun
  | [d1, d2, d3] => { results := [.lit (.bool false)], args := [d1, d2, d3] }
  | _ => none }
def BitsJoinsWrongFalsely : Prop := bitsJoinsRow.holds Try.pinned (OpenSpec.ofChange bitsJoinsWrong)

/-- 'tidemilllaw05.DeltaShift': WHATEVER THE INPUT: true; the input reads as it did. -/
def deltaShiftSpec : ChangeSpec := { name := "deltaShift", fn := fun _ => fun
  | [d1, d2] => { results := [.lit (.bool true)], args := [d1, d2] }
  | _ => none }
def deltaShiftRow : OpenClaim := { program := "ytgphdigcilbnlaa", sum := "f94a9c7bda3693cc2b0a179c0502d575f80a032c7aea274cea219bdfc1b66403", func := "tidemill/tidemilllaw05.DeltaShift", spec := "deltaShift", unfollowed := true, recurses := true, apart := false }
def DeltaShiftSaid : Prop := deltaShiftRow.holds Try.pinned (OpenSpec.ofChange deltaShiftSpec)

/-- ITS FALSE NEIGHBOUR: 'it returns false'. Refute it at one input. -/
def deltaShiftWrong : ChangeSpec := { name := "deltaShift", fn := fun _ => fun
  | [d1, d2] => { results := [.lit (.bool false)], args := [d1, d2] }
  | _ => none }
def DeltaShiftWrongFalsely : Prop := deltaShiftRow.holds Try.pinned (OpenSpec.ofChange deltaShiftWrong)

/-- 'tidemilllaw05.DeltaEncodes': WHATEVER THE INPUT: true; the input reads as it did. -/
def deltaEncodesSpec : ChangeSpec := { name := "deltaEncodes", fn := fun _ => fun
  | [d1, d2] => { results := [.lit (.bool true)], args := [d1, d2] }
  | _ => none }
def deltaEncodesRow : OpenClaim := { program := "ytgphdigcilbnlaa", sum := "f94a9c7bda3693cc2b0a179c0502d575f80a032c7aea274cea219bdfc1b66403", func := "tidemill/tidemilllaw05.DeltaEncodes", spec := "deltaEncodes", unfollowed := true, recurses := true, apart := false }
def DeltaEncodesSaid : Prop := deltaEncodesRow.holds Try.pinned (OpenSpec.ofChange deltaEncodesSpec)

/-- ITS FALSE NEIGHBOUR: 'it returns false'. Refute it at one input. -/
def deltaEncodesWrong : ChangeSpec := { name := "deltaEncodes", fn := fun _ => fun
  | [d1, d2] => { results := [.lit (.bool false)], args := [d1, d2] }
  | _ => none }
def DeltaEncodesWrongFalsely : Prop := deltaEncodesRow.holds Try.pinned (OpenSpec.ofChange deltaEncodesWrong)

/-- 'tidemilllaw05.DeltaSizes': WHATEVER THE INPUT: true; the input reads as it did. -/
def deltaSizesSpec : ChangeSpec := { name := "deltaSizes", fn := fun _ => fun
  | [d1, d2, d3] => { results := [.lit (.bool true)], args := [d1, d2, d3] }
  | _ => none }
def deltaSizesRow : OpenClaim := { program := "ytgphdigcilbnlaa", sum := "f94a9c7bda3693cc2b0a179c0502d575f80a032c7aea274cea219bdfc1b66403", func := "tidemill/tidemilllaw05.DeltaSizes", spec := "deltaSizes", unfollowed := true, recurses := true, apart := false }
def DeltaSizesSaid : Prop := deltaSizesRow.holds Try.pinned (OpenSpec.ofChange deltaSizesSpec)

/-- ITS FALSE NEIGHBOUR: 'it returns false'. Refute it at one input. -/
def deltaSizesWrong : ChangeSpec := { name := "deltaSizes", fn := fun _ => fun
  | [d1, d2, d3] => { results := [.lit (.bool false)], args := [d1, d2, d3] }
  | _ => none }
def DeltaSizesWrongFalsely : Prop := deltaSizesRow.holds Try.pinned (OpenSpec.ofChange deltaSizesWrong)

/-- 'tidemilllaw05.DeltaDecodes': WHATEVER THE INPUT: true; the input reads as it did. -/
def deltaDecodesSpec : ChangeSpec := { name := "deltaDecodes", fn := fun _ => fun
  | [d1, d2] => { results := [.lit (.bool true)], args := [d1, d2] }
  | _ => none }
def deltaDecodesRow : OpenClaim := { program := "ytgphdigcilbnlaa", sum := "f94a9c7bda3693cc2b0a179c0502d575f80a032c7aea274cea219bdfc1b66403", func := "tidemill/tidemilllaw05.DeltaDecodes", spec := "deltaDecodes", unfollowed := true, recurses := true, apart := false }
def DeltaDecodesSaid : Prop := deltaDecodesRow.holds Try.pinned (OpenSpec.ofChange deltaDecodesSpec)

/-- ITS FALSE NEIGHBOUR: 'it returns false'. Refute it at one input. -/
def deltaDecodesWrong : ChangeSpec := { name := "deltaDecodes", fn := fun _ => fun
  | [d1, d2] => { results := [.lit (.bool false)], args := [d1, d2] }
  | _ => none }
def DeltaDecodesWrongFalsely : Prop := deltaDecodesRow.holds Try.pinned (OpenSpec.ofChange deltaDecodesWrong)

/-- 'tidemilllaw05.DeltaBack': WHATEVER THE INPUT: true; the input reads as it did. -/
def deltaBackSpec : ChangeSpec := { name := "deltaBack", fn := fun _ => fun
  | [d] => { results := [.lit (.bool true)], args := [d] }
  | _ => none }
def deltaBackRow : OpenClaim := { program := "ytgphdigcilbnlaa", sum := "f94a9c7bda3693cc2b0a179c0502d575f80a032c7aea274cea219bdfc1b66403", func := "tidemill/tidemilllaw05.DeltaBack", spec := "deltaBack", unfollowed := true, recurses := true, apart := false }
def DeltaBackSaid : Prop := deltaBackRow.holds Try.pinned (OpenSpec.ofChange deltaBackSpec)

/-- ITS FALSE NEIGHBOUR: 'it returns false'. Refute it at one input. -/
def deltaBackWrong : ChangeSpec := { name := "deltaBack", fn := fun _ => fun
  | [d] => { results := [.lit (.bool false)], args := [d] }
  | _ => none }
def DeltaBackWrongFalsely : Prop := deltaBackRow.holds Try.pinned (OpenSpec.ofChange deltaBackWrong)

/-- 'tidemilllaw05.DeltaOne': WHATEVER THE INPUT: true; the input reads as it did. -/
def deltaOneSpec : ChangeSpec := { name := "deltaOne", fn := fun _ => fun
  | [d1, d2] => { results := [.lit (.bool true)], args := [d1, d2] }
  | _ => none }
def deltaOneRow : OpenClaim := { program := "ytgphdigcilbnlaa", sum := "f94a9c7bda3693cc2b0a179c0502d575f80a032c7aea274cea219bdfc1b66403", func := "tidemill/tidemilllaw05.DeltaOne", spec := "deltaOne", unfollowed := true, recurses := true, apart := false }
def DeltaOneSaid : Prop := deltaOneRow.holds Try.pinned (OpenSpec.ofChange deltaOneSpec)

/-- ITS FALSE NEIGHBOUR: 'it returns false'. Refute it at one input. -/
def deltaOneWrong : ChangeSpec := { name := "deltaOne", fn := fun _ => fun
  | [d1, d2] => { results := [.lit (.bool false)], args := [d1, d2] }
  | _ => none }
def DeltaOneWrongFalsely : Prop := deltaOneRow.holds Try.pinned (OpenSpec.ofChange deltaOneWrong)

/- THE SECOND FORM. 'bulk': how many values and letters a reading holds, each counted each time it is reached (what is shared counts as often as it is met; a slice's spare places count too). A statement '..UptoSaid' is the law's where the arguments, and the package variables that the reading takes, are together of bulk at most 1048576: NARROWER than '..Said'. Prove '..Said' where nothing that the law and all that it calls make is longer than what came in: it says more and counts as full. Else prove '..UptoSaid'. A law counts once. -/
mutual
def uptoBulk {H : Type} : DataW H → Nat
  | .lit (.string bytes) => bytes.length + 1
  | .lit _ => 1
  | .nil => 1
  | .ptr d => uptoBulk d + 1
  | .slice elems spare => uptoBulkAll elems + uptoBulkAll spare + 1
  | .agg parts => uptoBulkAll parts + 1
  | .iface _ d => uptoBulk d + 1
  | .map entries => uptoBulkEntries entries + 1
  | .held _ => 1
def uptoBulkAll {H : Type} : List (DataW H) → Nat
  | [] => 0
  | d :: r => uptoBulk d + uptoBulkAll r
def uptoBulkEntries {H : Type} : List (Lit × DataW H) → Nat
  | [] => 0
  | x :: r => uptoBulkEntry x + uptoBulkEntries r
def uptoBulkEntry {H : Type} : Lit × DataW H → Nat
  | (.string bytes, d) => bytes.length + uptoBulk d + 1
  | (_, d) => uptoBulk d + 1
 end
def uptoSmall : (H : Type) → List (DataW H) → Bool := fun _ ds => decide (uptoBulkAll ds ≤ 1048576)
def OpenSpec.upto (s : _root_.Go.ChangeSpec) : _root_.Go.OpenSpec := { _root_.Go.OpenSpec.ofChange s with cond := some uptoSmall }

/-- 'tidemilllaw02.BitsGets', WHERE WHAT IT READS IS OF BULK AT MOST 1048576: true; the input reads as it did. -/
def bitsGetsUptoRow : OpenClaim := { program := "ytgphdigcilbnlaa", sum := "f94a9c7bda3693cc2b0a179c0502d575f80a032c7aea274cea219bdfc1b66403", func := "tidemill/tidemilllaw02.BitsGets", spec := "bitsGets", apart := false, narrowed := true }
def BitsGetsUptoSaid : Prop := bitsGetsUptoRow.holds Try.pinned (OpenSpec.upto bitsGetsSpec)

/-- 'tidemilllaw02.BitsPuts', WHERE WHAT IT READS IS OF BULK AT MOST 1048576: true; the input reads as it did. -/
def bitsPutsUptoRow : OpenClaim := { program := "ytgphdigcilbnlaa", sum := "f94a9c7bda3693cc2b0a179c0502d575f80a032c7aea274cea219bdfc1b66403", func := "tidemill/tidemilllaw02.BitsPuts", spec := "bitsPuts", unfollowed := true, recurses := true, apart := false, narrowed := true }
def BitsPutsUptoSaid : Prop := bitsPutsUptoRow.holds Try.pinned (OpenSpec.upto bitsPutsSpec)

/-- 'tidemilllaw02.BitsNobody', WHERE WHAT IT READS IS OF BULK AT MOST 1048576: true; the input reads as it did. -/
def bitsNobodyUptoRow : OpenClaim := { program := "ytgphdigcilbnlaa", sum := "f94a9c7bda3693cc2b0a179c0502d575f80a032c7aea274cea219bdfc1b66403", func := "tidemill/tidemilllaw02.BitsNobody", spec := "bitsNobody", unfollowed := true, recurses := true, apart := false, narrowed := true }
def BitsNobodyUptoSaid : Prop := bitsNobodyUptoRow.holds Try.pinned (OpenSpec.upto bitsNobodySpec)

/-- 'tidemilllaw02.BitsPieces', WHERE WHAT IT READS IS OF BULK AT MOST 1048576: true; the input reads as it did. -/
def bitsPiecesUptoRow : OpenClaim := { program := "ytgphdigcilbnlaa", sum := "f94a9c7bda3693cc2b0a179c0502d575f80a032c7aea274cea219bdfc1b66403", func := "tidemill/tidemilllaw02.BitsPieces", spec := "bitsPieces", unfollowed := true, recurses := true, apart := false, narrowed := true }
def BitsPiecesUptoSaid : Prop := bitsPiecesUptoRow.holds Try.pinned (OpenSpec.upto bitsPiecesSpec)

/-- 'tidemilllaw02.BitsBack', WHERE WHAT IT READS IS OF BULK AT MOST 1048576: true; the input reads as it did. -/
def bitsBackUptoRow : OpenClaim := { program := "ytgphdigcilbnlaa", sum := "f94a9c7bda3693cc2b0a179c0502d575f80a032c7aea274cea219bdfc1b66403", func := "tidemill/tidemilllaw02.BitsBack", spec := "bitsBack", unfollowed := true, recurses := true, apart := false, narrowed := true }
def BitsBackUptoSaid : Prop := bitsBackUptoRow.holds Try.pinned (OpenSpec.upto bitsBackSpec)

/-- 'tidemilllaw02.BitsJoins', WHERE WHAT IT READS IS OF BULK AT MOST 1048576: true; the input reads as it did. -/
def bitsJoinsUptoRow : OpenClaim := { program := "ytgphdigcilbnlaa", sum := "f94a9c7bda3693cc2b0a179c0502d575f80a032c7aea274cea219bdfc1b66403", func := "tidemill/tidemilllaw02.BitsJoins", spec := "bitsJoins", unfollowed := true, recurses := true, apart := false, narrowed := true }
def BitsJoinsUptoSaid : Prop := bitsJoinsUptoRow.holds Try.pinned (OpenSpec.upto bitsJoinsSpec)

/-- 'tidemilllaw05.DeltaShift', WHERE WHAT IT READS IS OF BULK AT MOST 1048576: true; the input reads as it did. -/
def deltaShiftUptoRow : OpenClaim := { program := "ytgphdigcilbnlaa", sum := "f94a9c7bda3693cc2b0a179c0502d575f80a032c7aea274cea219bdfc1b66403", func := "tidemill/tidemilllaw05.DeltaShift", spec := "deltaShift", unfollowed := true, recurses := true, apart := false, narrowed := true }
def DeltaShiftUptoSaid : Prop := deltaShiftUptoRow.holds Try.pinned (OpenSpec.upto deltaShiftSpec)

/-- 'tidemilllaw05.DeltaEncodes', WHERE WHAT IT READS IS OF BULK AT MOST 1048576: true; the input reads as it did. -/
def deltaEncodesUptoRow : OpenClaim := { program := "ytgphdigcilbnlaa", sum := "f94a9c7bda3693cc2b0a179c0502d575f80a032c7aea274cea219bdfc1b66403", func := "tidemill/tidemilllaw05.DeltaEncodes", spec := "deltaEncodes", unfollowed := true, recurses := true, apart := false, narrowed := true }
def DeltaEncodesUptoSaid : Prop := deltaEncodesUptoRow.holds Try.pinned (OpenSpec.upto deltaEncodesSpec)

/-- 'tidemilllaw05.DeltaSizes', WHERE WHAT IT READS IS OF BULK AT MOST 1048576: true; the input reads as it did. -/
def deltaSizesUptoRow : OpenClaim := { program := "ytgphdigcilbnlaa", sum := "f94a9c7bda3693cc2b0a179c0502d575f80a032c7aea274cea219bdfc1b66403", func := "tidemill/tidemilllaw05.DeltaSizes", spec := "deltaSizes", unfollowed := true, recurses := true, apart := false, narrowed := true }
def DeltaSizesUptoSaid : Prop := deltaSizesUptoRow.holds Try.pinned (OpenSpec.upto deltaSizesSpec)

/-- 'tidemilllaw05.DeltaDecodes', WHERE WHAT IT READS IS OF BULK AT MOST 1048576: true; the input reads as it did. -/
def deltaDecodesUptoRow : OpenClaim := { program := "ytgphdigcilbnlaa", sum := "f94a9c7bda3693cc2b0a179c0502d575f80a032c7aea274cea219bdfc1b66403", func := "tidemill/tidemilllaw05.DeltaDecodes", spec := "deltaDecodes", unfollowed := true, recurses := true, apart := false, narrowed := true }
def DeltaDecodesUptoSaid : Prop := deltaDecodesUptoRow.holds Try.pinned (OpenSpec.upto deltaDecodesSpec)

/-- 'tidemilllaw05.DeltaBack', WHERE WHAT IT READS IS OF BULK AT MOST 1048576: true; the input reads as it did. -/
def deltaBackUptoRow : OpenClaim := { program := "ytgphdigcilbnlaa", sum := "f94a9c7bda3693cc2b0a179c0502d575f80a032c7aea274cea219bdfc1b66403", func := "tidemill/tidemilllaw05.DeltaBack", spec := "deltaBack", unfollowed := true, recurses := true, apart := false, narrowed := true }
def DeltaBackUptoSaid : Prop := deltaBackUptoRow.holds Try.pinned (OpenSpec.upto deltaBackSpec)

/-- 'tidemilllaw05.DeltaOne', WHERE WHAT IT READS IS OF BULK AT MOST 1048576: true; the input reads as it did. -/
def deltaOneUptoRow : OpenClaim := { program := "ytgphdigcilbnlaa", sum := "f94a9c7bda3693cc2b0a179c0502d575f80a032c7aea274cea219bdfc1b66403", func := "tidemill/tidemilllaw05.DeltaOne", spec := "deltaOne", unfollowed := true, recurses := true, apart := false, narrowed := true }
def DeltaOneUptoSaid : Prop := deltaOneUptoRow.holds Try.pinned (OpenSpec.upto deltaOneSpec)

end Rows
end Go.Proofs.Ytgphdigcilbnlaa
