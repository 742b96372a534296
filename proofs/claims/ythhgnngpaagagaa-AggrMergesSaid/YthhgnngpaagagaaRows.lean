/-
  No cell of these rows narrows 'for every input' (looked for: loops, veiled, ifaces, maps, wideKeys, modest, calm, conditions, laid).
  DERIVED. THE GIVEN ROWS OF THIS SEAT. 4 by the template 'for every input the law returns true; each argument reads behind the call as it read before'; 0 by the template 'total and deterministic' (their statements: YthhgnngpaagagaaTotals.lean).
  GIVEN WITH THE SEED: the statements are not yours to turn. If you find one false, say at which input.
  Laid BY PROGRAM, IN A SANDBOX (cutbox-rows.mjs): the forced cells as the released guide's own fill.sh prints them over the translation 92314a4c09462746… (all of the seat's roots in one cut). By AI agents, Wed Nov 11 2026. No macro, syntax, notation, axiom, sorry.
-/
import Derived.Test.YthhgnngpaagagaaChecked
import GoSem.Claim
import GoSem.ClaimJoined
import GoSem.ClaimMapViews
import Derived.JoinedTies
import Derived.KernelRfl
namespace Go.Proofs.Ythhgnngpaagagaa
/- THE CELL 'sum', in the pinned program and in every row, IS THE sha256 OF THE DUMP (.gsa) THAT YthhgnngpaagagaaProg.lean LOADS. Nothing in Lean hashes anything: it is a label: what it is worth is what the hold of that sum in a sandbox is worth. -/
noncomputable def Try.pinned : Pinned := { name := "ythhgnngpaagagaa", sum := "92314a4c09462746075b527db6a6c48b6ca5f8edfceca22bda89ce89531425b1", checked := Try.checked }
namespace Rows
def none {H : Type} : Left H := { results := [], args := [] }

/-- 'tidemilllaw08.AggrEnds': WHATEVER THE INPUT: true; the input reads as it did. -/
def aggrEndsSpec : ChangeSpec := { name := "aggrEnds", fn := fun _ => fun
  | [d] => { results := [.lit (.bool true)], args := [d] }
  | _ => none }
def aggrEndsRow : OpenClaim := { program := "ythhgnngpaagagaa", sum := "92314a4c09462746075b527db6a6c48b6ca5f8edfceca22bda89ce89531425b1", func := "tidemill/tidemilllaw08.AggrEnds", spec := "aggrEnds", inPlace := ["math/bits.Add64"], apart := false }
def AggrEndsSaid : Prop := aggrEndsRow.holds Try.pinned (OpenSpec.ofChange aggrEndsSpec)

/-- ITS FALSE NEIGHBOUR: 'it returns false'. Refute it at one input. -/
def aggrEndsWrong : ChangeSpec := { name := "aggrEnds", fn := fun _ => fun
  | [d] => { results := [.lit (.bool false)], args := [d] }
  | _ => none }
def AggrEndsWrongFalsely : Prop := aggrEndsRow.holds Try.pinned (OpenSpec.ofChange aggrEndsWrong)

/-- 'tidemilllaw08.AggrOrder': WHATEVER THE INPUT: true; the input reads as it did. -/
def aggrOrderSpec : ChangeSpec := { name := "aggrOrder", fn := fun _ => fun
  | [d1, d2] => { results := [.lit (.bool true)], args := [d1, d2] }
  | _ => none }
def aggrOrderRow : OpenClaim := { program := "ythhgnngpaagagaa", sum := "92314a4c09462746075b527db6a6c48b6ca5f8edfceca22bda89ce89531425b1", func := "tidemill/tidemilllaw08.AggrOrder", spec := "aggrOrder", inPlace := ["math/bits.Add64"], apart := false }
def AggrOrderSaid : Prop := aggrOrderRow.holds Try.pinned (OpenSpec.ofChange aggrOrderSpec)

/-- ITS FALSE NEIGHBOUR: 'it returns false'. Refute it at one input. -/
def aggrOrderWrong : ChangeSpec := { name := "aggrOrder", fn := fun _ => fun
  | [d1, d2] => { results := [.lit (.bool false)], args := [d1, d2] }
  | _ => none }
def AggrOrderWrongFalsely : Prop := aggrOrderRow.holds Try.pinned (OpenSpec.ofChange aggrOrderWrong)

/-- 'tidemilllaw08.AggrMerges': WHATEVER THE INPUT: true; the input reads as it did. -/
def aggrMergesSpec : ChangeSpec := { name := "aggrMerges", fn := fun _ => fun
  | [d1, d2, d3] => { results := [.lit (.bool true)], args := [d1, d2, d3] }
  | _ => none }
def aggrMergesRow : OpenClaim := { program := "ythhgnngpaagagaa", sum := "92314a4c09462746075b527db6a6c48b6ca5f8edfceca22bda89ce89531425b1", func := "tidemill/tidemilllaw08.AggrMerges", spec := "aggrMerges", inPlace := ["math/bits.Add64"], named := ["math/bits.divideError", "math/bits.overflowError"], apart := false }
def AggrMergesSaid : Prop := aggrMergesRow.holds Try.pinned (OpenSpec.ofChange aggrMergesSpec)

/-- ITS FALSE NEIGHBOUR: 'it returns false'. Refute it at one input. -/
def aggrMergesWrong : ChangeSpec := { name := "aggrMerges", fn := fun _ => fun
  | [d1, d2, d3] => { results := [.lit (.bool false)], args := [d1, d2, d3] }
  | _ => none }
def AggrMergesWrongFalsely : Prop := aggrMergesRow.holds Try.pinned (OpenSpec.ofChange aggrMergesWrong)

/-- 'tidemilllaw08.AggrMeans': WHATEVER THE INPUT: true; the input reads as it did. -/
def aggrMeansSpec : ChangeSpec := { name := "aggrMeans", fn := fun _ => fun
  | [d1, d2, d3] => { results := [.lit (.bool true)], args := [d1, d2, d3] }
  | _ => none }
def aggrMeansRow : OpenClaim := { program := "ythhgnngpaagagaa", sum := "92314a4c09462746075b527db6a6c48b6ca5f8edfceca22bda89ce89531425b1", func := "tidemill/tidemilllaw08.AggrMeans", spec := "aggrMeans", inPlace := ["math/bits.Add64"], named := ["math/bits.divideError", "math/bits.overflowError"], apart := false }
def AggrMeansSaid : Prop := aggrMeansRow.holds Try.pinned (OpenSpec.ofChange aggrMeansSpec)

/-- ITS FALSE NEIGHBOUR: 'it returns false'. Refute it at one input. -/
def aggrMeansWrong : ChangeSpec := { name := "aggrMeans", fn := fun _ => fun
  | [d1, d2, d3] => { results := [.lit (.bool false)], args := [d1, d2, d3] }
  | _ => none }
def AggrMeansWrongFalsely : Prop := aggrMeansRow.holds Try.pinned (OpenSpec.ofChange aggrMeansWrong)

/- THE SECOND FORM. 'bulk': how many values and letters a reading holds, each counted each time it is reached (what is shared counts as often as it is met; a slice's spare places count too). A statement '..UptoSaid' is the law's where the arguments, and the package variables that the reading takes, are together of bulk at most 1048576: NARROWER than '..Said'. Prove '..Said' where nothing that the law and all that it calls make is longer than what came in: it says more and counts as full. Else prove '..UptoSaid'. A law counts once. -/
mutual
def uptoBulk {H : Type} : DataW H → Nat
  | .lit (.string bytes) => bytes.length + 1
  | .lit _ => 1
  | .nil => 1
  | .ptr d => uptoBulk d + 1
  | .slice elems spare => uptoBulkAll elems + uptoBulkAll spare + 1
  | .agg parts => uptoBulkAll parts + 1
  | .iface _ d => uptoBulk d + 1
  | .map entries => uptoBulkEntries entries + 1
  | .held _ => 1
def uptoBulkAll {H : Type} : List (DataW H) → Nat
  | [] => 0
  | d :: r => uptoBulk d + uptoBulkAll r
def uptoBulkEntries {H : Type} : List (Lit × DataW H) → Nat
  | [] => 0
  | x :: r => uptoBulkEntry x + uptoBulkEntries r
def uptoBulkEntry {H : Type} : Lit × DataW H → Nat
  | (.string bytes, d) => bytes.length + uptoBulk d + 1
  | (_, d) => uptoBulk d + 1
 end
def uptoSmall : (H : Type) → List (DataW H) → Bool := fun _ ds => decide (uptoBulkAll ds ≤ 1048576)
def OpenSpec.upto (s : _root_.Go.ChangeSpec) : _root_.Go.OpenSpec := { _root_.Go.OpenSpec.ofChange s with cond := some uptoSmall }

/-- 'tidemilllaw08.AggrEnds', WHERE WHAT IT READS IS OF BULK AT MOST 1048576: true; the input reads as it did. -/
def aggrEndsUptoRow : OpenClaim := { program := "ythhgnngpaagagaa", sum := "92314a4c09462746075b527db6a6c48b6ca5f8edfceca22bda89ce89531425b1", func := "tidemill/tidemilllaw08.AggrEnds", spec := "aggrEnds", inPlace := ["math/bits.Add64"], apart := false, narrowed := true }
def AggrEndsUptoSaid : Prop := aggrEndsUptoRow.holds Try.pinned (OpenSpec.upto aggrEndsSpec)

/-- 'tidemilllaw08.AggrOrder', WHERE WHAT IT READS IS OF BULK AT MOST 1048576: true; the input reads as it did. -/
def aggrOrderUptoRow : OpenClaim := { program := "ythhgnngpaagagaa", sum := "92314a4c09462746075b527db6a6c48b6ca5f8edfceca22bda89ce89531425b1", func := "tidemill/tidemilllaw08.AggrOrder", spec := "aggrOrder", inPlace := ["math/bits.Add64"], apart := false, narrowed := true }
def AggrOrderUptoSaid : Prop := aggrOrderUptoRow.holds Try.pinned (OpenSpec.upto aggrOrderSpec)

/-- 'tidemilllaw08.AggrMerges', WHERE WHAT IT READS IS OF BULK AT MOST 1048576: true; the input reads as it did. -/
def aggrMergesUptoRow : OpenClaim := { program := "ythhgnngpaagagaa", sum := "92314a4c09462746075b527db6a6c48b6ca5f8edfceca22bda89ce89531425b1", func := "tidemill/tidemilllaw08.AggrMerges", spec := "aggrMerges", inPlace := ["math/bits.Add64"], named := ["math/bits.divideError", "math/bits.overflowError"], apart := false, narrowed := true }
def AggrMergesUptoSaid : Prop := aggrMergesUptoRow.holds Try.pinned (OpenSpec.upto aggrMergesSpec)

/-- 'tidemilllaw08.AggrMeans', WHERE WHAT IT READS IS OF BULK AT MOST 1048576: true; the input reads as it did. -/
def aggrMeansUptoRow : OpenClaim := { program := "ythhgnngpaagagaa", sum := "92314a4c09462746075b527db6a6c48b6ca5f8edfceca22bda89ce89531425b1", func := "tidemill/tidemilllaw08.AggrMeans", spec := "aggrMeans", inPlace := ["math/bits.Add64"], named := ["math/bits.divideError", "math/bits.overflowError"], apart := false, narrowed := true }
def AggrMeansUptoSaid : Prop := aggrMeansUptoRow.holds Try.pinned (OpenSpec.upto aggrMeansSpec)

end Rows
end Go.Proofs.Ythhgnngpaagagaa
