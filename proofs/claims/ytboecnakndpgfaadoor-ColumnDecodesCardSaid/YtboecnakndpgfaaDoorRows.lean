/-
  NARROWER THAN 'FOR EVERY INPUT', by the rows' own cells (each row's printed sentence says how): ColumnDecodes: laid · ColumnBack: laid · ColumnBits: laid · ColumnOne: laid · ColumnShort: laid.
  DERIVED. THE GIVEN ROWS OF THIS SEAT. 5 by the template 'for every input the law returns true; each argument reads behind the call as it read before'; 0 by the template 'total and deterministic' (their statements: YtboecnakndpgfaaDoorTotals.lean).
  GIVEN WITH THE SEED: the statements are not yours to turn. If you find one false, say at which input.
  Laid BY PROGRAM, IN A SANDBOX (cutbox-rows.mjs): the forced cells as the released guide's own fill.sh prints them over the translation 84f2c132a890c746… (all of the seat's roots in one cut). By AI agents, Wed Nov 11 2026. No macro, syntax, notation, axiom, sorry.
-/
import Derived.Test.YtboecnakndpgfaaDoorChecked
import GoSem.Claim
import GoSem.ClaimJoined
import GoSem.ClaimMapViews
import Derived.JoinedTies
import Derived.KernelRfl
namespace Go.Proofs.YtboecnakndpgfaaDoor
/- THE CELL 'sum', in the pinned program and in every row, IS THE sha256 OF THE DUMP (.gsa) THAT YtboecnakndpgfaaDoorProg.lean LOADS. Nothing in Lean hashes anything: it is a label: what it is worth is what the hold of that sum in a sandbox is worth. -/
noncomputable def Tryd.pinned : Pinned := { name := "ytboecnakndpgfaadoor", sum := "84f2c132a890c746c6cdb01f06b643c44f04e7b65a0650c0980584e4907cd785", checked := Tryd.checked }
namespace Rows
def none {H : Type} : Left H := { results := [], args := [] }

/- WHAT THE LISTED PACKAGE-LEVEL VARIABLES READ AS WHEN THE CALL BEGINS. Each datum BY PROGRAM (the guide's laid-datum.mjs) off the statement by which the dump's own 'gosem.cut.vars' lays the variable. In a bare row this is a premise. The card (YtboecnakndpgfaaDoorCards.lean) ties it to the program's text. -/
def laid_errors_errorType {H : Type} : DataW H := .iface "internal/reflectlite.rtype" (.agg [.ptr (.lit (.string [101, 114, 114, 111, 114]))])

/-- 'tidemilllaw13.ColumnDecodes': WHATEVER THE INPUT: true; the input reads as it did. -/
def columnDecodesSpec : ChangeSpec := { name := "columnDecodes", fn := fun _ => fun
  | [d] => { results := [.lit (.bool true)], args := [d] }
  | _ => none }
def columnDecodesRow : OpenClaim := { program := "ytboecnakndpgfaadoor", sum := "84f2c132a890c746c6cdb01f06b643c44f04e7b65a0650c0980584e4907cd785", func := "tidemill/tidemilllaw13.ColumnDecodes", spec := "columnDecodes", inPlace := ["internal/reflectlite.TypeOf", "internal/reflectlite.ValueOf", "(internal/reflectlite.Value).Type", "(internal/reflectlite.Value).IsNil", "(internal/reflectlite.Value).Elem", "(internal/reflectlite.Value).Set"], unfollowed := true, recurses := true, named := ["errors.errorType"], apart := false, laid := [("errors.errorType", laid_errors_errorType)] }
def ColumnDecodesSaid : Prop := columnDecodesRow.holds Tryd.pinned (OpenSpec.ofChange columnDecodesSpec)

/-- ITS FALSE NEIGHBOUR: 'it returns false'. Refute it at one input. -/
def columnDecodesWrong : ChangeSpec := { name := "columnDecodes", fn := fun _ => fun
  | [d] => { results := [.lit (.bool false)], args := [d] }
  | _ => none }
def ColumnDecodesWrongFalsely : Prop := columnDecodesRow.holds Tryd.pinned (OpenSpec.ofChange columnDecodesWrong)

/-- 'tidemilllaw13.ColumnBack': WHATEVER THE INPUT: true; the input reads as it did. -/
def columnBackSpec : ChangeSpec := { name := "columnBack", fn := fun _ => fun
  | [d] => { results := [.lit (.bool true)], args := [d] }
  | _ => none }
def columnBackRow : OpenClaim := { program := "ytboecnakndpgfaadoor", sum := "84f2c132a890c746c6cdb01f06b643c44f04e7b65a0650c0980584e4907cd785", func := "tidemill/tidemilllaw13.ColumnBack", spec := "columnBack", inPlace := ["internal/reflectlite.TypeOf", "internal/reflectlite.ValueOf", "(internal/reflectlite.Value).Type", "(internal/reflectlite.Value).IsNil", "(internal/reflectlite.Value).Elem", "(internal/reflectlite.Value).Set"], unfollowed := true, recurses := true, named := ["errors.errorType"], apart := false, laid := [("errors.errorType", laid_errors_errorType)] }
def ColumnBackSaid : Prop := columnBackRow.holds Tryd.pinned (OpenSpec.ofChange columnBackSpec)

/-- ITS FALSE NEIGHBOUR: 'it returns false'. Refute it at one input. -/
def columnBackWrong : ChangeSpec := { name := "columnBack", fn := fun _ => fun
  | [d] => { results := [.lit (.bool false)], args := [d] }
  | _ => none }
def ColumnBackWrongFalsely : Prop := columnBackRow.holds Tryd.pinned (OpenSpec.ofChange columnBackWrong)

/-- 'tidemilllaw13.ColumnBits': WHATEVER THE INPUT: true; the input reads as it did. -/
def columnBitsSpec : ChangeSpec := { name := "columnBits", fn := fun _ => fun
  | [d1, d2, d3] => { results := [.lit (.bool true)], args := [d1, d2, d3] }
  | _ => none }
def columnBitsRow : OpenClaim := { program := "ytboecnakndpgfaadoor", sum := "84f2c132a890c746c6cdb01f06b643c44f04e7b65a0650c0980584e4907cd785", func := "tidemill/tidemilllaw13.ColumnBits", spec := "columnBits", inPlace := ["internal/reflectlite.TypeOf", "internal/reflectlite.ValueOf", "(internal/reflectlite.Value).Type", "(internal/reflectlite.Value).IsNil", "(internal/reflectlite.Value).Elem", "(internal/reflectlite.Value).Set"], unfollowed := true, recurses := true, named := ["errors.errorType"], apart := false, laid := [("errors.errorType", laid_errors_errorType)] }
def ColumnBitsSaid : Prop := columnBitsRow.holds Tryd.pinned (OpenSpec.ofChange columnBitsSpec)

/-- ITS FALSE NEIGHBOUR: 'it returns false'. Refute it at one input. -/
def columnBitsWrong : ChangeSpec := { name := "columnBits", fn := fun _ => fun
  | [d1, d2, d3] => { results := [.lit (.bool false)], args := [d1, d2, d3] }
  | _ => none }
def ColumnBitsWrongFalsely : Prop := columnBitsRow.holds Tryd.pinned (OpenSpec.ofChange columnBitsWrong)

/-- 'tidemilllaw13.ColumnOne': WHATEVER THE INPUT: true; the input reads as it did. -/
def columnOneSpec : ChangeSpec := { name := "columnOne", fn := fun _ => fun
  | [d] => { results := [.lit (.bool true)], args := [d] }
  | _ => none }
def columnOneRow : OpenClaim := { program := "ytboecnakndpgfaadoor", sum := "84f2c132a890c746c6cdb01f06b643c44f04e7b65a0650c0980584e4907cd785", func := "tidemill/tidemilllaw13.ColumnOne", spec := "columnOne", inPlace := ["internal/reflectlite.TypeOf", "internal/reflectlite.ValueOf", "(internal/reflectlite.Value).Type", "(internal/reflectlite.Value).IsNil", "(internal/reflectlite.Value).Elem", "(internal/reflectlite.Value).Set"], unfollowed := true, recurses := true, named := ["errors.errorType"], apart := false, laid := [("errors.errorType", laid_errors_errorType)] }
def ColumnOneSaid : Prop := columnOneRow.holds Tryd.pinned (OpenSpec.ofChange columnOneSpec)

/-- ITS FALSE NEIGHBOUR: 'it returns false'. Refute it at one input. -/
def columnOneWrong : ChangeSpec := { name := "columnOne", fn := fun _ => fun
  | [d] => { results := [.lit (.bool false)], args := [d] }
  | _ => none }
def ColumnOneWrongFalsely : Prop := columnOneRow.holds Tryd.pinned (OpenSpec.ofChange columnOneWrong)

/-- 'tidemilllaw13.ColumnShort': WHATEVER THE INPUT: true; the input reads as it did. -/
def columnShortSpec : ChangeSpec := { name := "columnShort", fn := fun _ => fun
  | [d1, d2] => { results := [.lit (.bool true)], args := [d1, d2] }
  | _ => none }
def columnShortRow : OpenClaim := { program := "ytboecnakndpgfaadoor", sum := "84f2c132a890c746c6cdb01f06b643c44f04e7b65a0650c0980584e4907cd785", func := "tidemill/tidemilllaw13.ColumnShort", spec := "columnShort", inPlace := ["internal/reflectlite.TypeOf", "internal/reflectlite.ValueOf", "(internal/reflectlite.Value).Type", "(internal/reflectlite.Value).IsNil", "(internal/reflectlite.Value).Elem", "(internal/reflectlite.Value).Set"], unfollowed := true, recurses := true, named := ["errors.errorType"], apart := false, laid := [("errors.errorType", laid_errors_errorType)] }
def ColumnShortSaid : Prop := columnShortRow.holds Tryd.pinned (OpenSpec.ofChange columnShortSpec)

/-- ITS FALSE NEIGHBOUR: 'it returns false'. Refute it at one input. -/
def columnShortWrong : ChangeSpec := { name := "columnShort", fn := fun _ => fun
  | [d1, d2] => { results := [.lit (.bool false)], args := [d1, d2] }
  | _ => none }
def ColumnShortWrongFalsely : Prop := columnShortRow.holds Tryd.pinned (OpenSpec.ofChange columnShortWrong)

/- THE SECOND FORM. 'bulk': how many values and letters a reading holds, each counted each time it is reached (what is shared counts as often as it is met; a slice's spare places count too). A statement '..UptoSaid' is the law's where the arguments, and the package variables that the reading takes, are together of bulk at most 1048576: NARROWER than '..Said'. Prove '..Said' where nothing that the law and all that it calls make is longer than what came in: it says more and counts as full. Else prove '..UptoSaid'. A law counts once. -/
mutual
def uptoBulk {H : Type} : DataW H → Nat
  | .lit (.string bytes) => bytes.length + 1
  | .lit _ => 1
  | .nil => 1
  | .ptr d => uptoBulk d + 1
  | .slice elems spare => uptoBulkAll elems + uptoBulkAll spare + 1
  | .agg parts => uptoBulkAll parts + 1
  | .iface _ d => uptoBulk d + 1
  | .map entries => uptoBulkEntries entries + 1
  | .held _ => 1
def uptoBulkAll {H : Type} : List (DataW H) → Nat
  | [] => 0
  | d :: r => uptoBulk d + uptoBulkAll r
def uptoBulkEntries {H : Type} : List (Lit × DataW H) → Nat
  | [] => 0
  | x :: r => uptoBulkEntry x + uptoBulkEntries r
def uptoBulkEntry {H : Type} : Lit × DataW H → Nat
  | (.string bytes, d) => bytes.length + uptoBulk d + 1
  | (_, d) => uptoBulk d + 1
 end
def uptoSmall : (H : Type) → List (DataW H) → Bool := fun _ ds => decide (uptoBulkAll ds ≤ 1048576)
def OpenSpec.upto (s : _root_.Go.ChangeSpec) : _root_.Go.OpenSpec := { _root_.Go.OpenSpec.ofChange s with cond := some uptoSmall }

/-- 'tidemilllaw13.ColumnDecodes', WHERE WHAT IT READS IS OF BULK AT MOST 1048576: true; the input reads as it did. -/
def columnDecodesUptoRow : OpenClaim := { program := "ytboecnakndpgfaadoor", sum := "84f2c132a890c746c6cdb01f06b643c44f04e7b65a0650c0980584e4907cd785", func := "tidemill/tidemilllaw13.ColumnDecodes", spec := "columnDecodes", inPlace := ["internal/reflectlite.TypeOf", "internal/reflectlite.ValueOf", "(internal/reflectlite.Value).Type", "(internal/reflectlite.Value).IsNil", "(internal/reflectlite.Value).Elem", "(internal/reflectlite.Value).Set"], unfollowed := true, recurses := true, named := ["errors.errorType"], apart := false, laid := [("errors.errorType", laid_errors_errorType)], narrowed := true }
def ColumnDecodesUptoSaid : Prop := columnDecodesUptoRow.holds Tryd.pinned (OpenSpec.upto columnDecodesSpec)

/-- 'tidemilllaw13.ColumnBack', WHERE WHAT IT READS IS OF BULK AT MOST 1048576: true; the input reads as it did. -/
def columnBackUptoRow : OpenClaim := { program := "ytboecnakndpgfaadoor", sum := "84f2c132a890c746c6cdb01f06b643c44f04e7b65a0650c0980584e4907cd785", func := "tidemill/tidemilllaw13.ColumnBack", spec := "columnBack", inPlace := ["internal/reflectlite.TypeOf", "internal/reflectlite.ValueOf", "(internal/reflectlite.Value).Type", "(internal/reflectlite.Value).IsNil", "(internal/reflectlite.Value).Elem", "(internal/reflectlite.Value).Set"], unfollowed := true, recurses := true, named := ["errors.errorType"], apart := false, laid := [("errors.errorType", laid_errors_errorType)], narrowed := true }
def ColumnBackUptoSaid : Prop := columnBackUptoRow.holds Tryd.pinned (OpenSpec.upto columnBackSpec)

/-- 'tidemilllaw13.ColumnBits', WHERE WHAT IT READS IS OF BULK AT MOST 1048576: true; the input reads as it did. -/
def columnBitsUptoRow : OpenClaim := { program := "ytboecnakndpgfaadoor", sum := "84f2c132a890c746c6cdb01f06b643c44f04e7b65a0650c0980584e4907cd785", func := "tidemill/tidemilllaw13.ColumnBits", spec := "columnBits", inPlace := ["internal/reflectlite.TypeOf", "internal/reflectlite.ValueOf", "(internal/reflectlite.Value).Type", "(internal/reflectlite.Value).IsNil", "(internal/reflectlite.Value).Elem", "(internal/reflectlite.Value).Set"], unfollowed := true, recurses := true, named := ["errors.errorType"], apart := false, laid := [("errors.errorType", laid_errors_errorType)], narrowed := true }
def ColumnBitsUptoSaid : Prop := columnBitsUptoRow.holds Tryd.pinned (OpenSpec.upto columnBitsSpec)

/-- 'tidemilllaw13.ColumnOne', WHERE WHAT IT READS IS OF BULK AT MOST 1048576: true; the input reads as it did. -/
def columnOneUptoRow : OpenClaim := { program := "ytboecnakndpgfaadoor", sum := "84f2c132a890c746c6cdb01f06b643c44f04e7b65a0650c0980584e4907cd785", func := "tidemill/tidemilllaw13.ColumnOne", spec := "columnOne", inPlace := ["internal/reflectlite.TypeOf", "internal/reflectlite.ValueOf", "(internal/reflectlite.Value).Type", "(internal/reflectlite.Value).IsNil", "(internal/reflectlite.Value).Elem", "(internal/reflectlite.Value).Set"], unfollowed := true, recurses := true, named := ["errors.errorType"], apart := false, laid := [("errors.errorType", laid_errors_errorType)], narrowed := true }
def ColumnOneUptoSaid : Prop := columnOneUptoRow.holds Tryd.pinned (OpenSpec.upto columnOneSpec)

/-- 'tidemilllaw13.ColumnShort', WHERE WHAT IT READS IS OF BULK AT MOST 1048576: true; the input reads as it did. -/
def columnShortUptoRow : OpenClaim := { program := "ytboecnakndpgfaadoor", sum := "84f2c132a890c746c6cdb01f06b643c44f04e7b65a0650c0980584e4907cd785", func := "tidemill/tidemilllaw13.ColumnShort", spec := "columnShort", inPlace := ["internal/reflectlite.TypeOf", "internal/reflectlite.ValueOf", "(internal/reflectlite.Value).Type", "(internal/reflectlite.Value).IsNil", "(internal/reflectlite.Value).Elem", "(internal/reflectlite.Value).Set"], unfollowed := true, recurses := true, named := ["errors.errorType"], apart := false, laid := [("errors.errorType", laid_errors_errorType)], narrowed := true }
def ColumnShortUptoSaid : Prop := columnShortUptoRow.holds Tryd.pinned (OpenSpec.upto columnShortSpec)

end Rows
end Go.Proofs.YtboecnakndpgfaaDoor
