/-
  DERIVED. GIVEN WITH THE SEED: THE CARDS: each row of YthhgnngpaagagaaDoorRows.lean that lists a variable, with what it lists TIED to the program's text (the seventh form; the later family's looks); each row that meets fmt, with fmt's text TOLD by the authors' own Lean function (tested against real Go, not proved from fmt's source: count such statements apart). THE CARD IS WHAT COUNTS. Prove the row's statement (the work); the ties are given (YthhgnngpaagagaaDoorTie.lean); close each card by the builder's one call (the guide's Derived/Test/ToyasCard.lean, 'card_holds'). Laid BY PROGRAM, IN A SANDBOX (cutbox-door.mjs). By AI agents, Wed Nov 11 2026. No macro, syntax, notation, axiom, sorry.
-/
import Derived.Test.YthhgnngpaagagaaDoorRows
import GoSem.ClaimSeven
namespace Go.Proofs.YthhgnngpaagagaaDoor
namespace Rows

/-- THE TIED CARD OF 'tidemilllaw08.AggrReads'. -/
def aggrReadsCard : Claim7 := { stood := { row := aggrReadsRow, standIns := [], harness := (true, "ba385465433efb7be50662dfcccde93795dab0bc373507cea9535d04fdd8322d"), looks := true }, kinds := [], alts := [], laidByText := true, laidKinds := [.handle], laidTests := true, laidLooks := .later }
def AggrReadsCardSaid : Prop := Claim7.holds Tryd.pinned (.plain (OpenSpec.ofChange aggrReadsSpec)) aggrReadsCard

/-- THE TIED CARD OF 'tidemilllaw08.AggrBack'. -/
def aggrBackCard : Claim7 := { stood := { row := aggrBackRow, standIns := [], harness := (true, "ba385465433efb7be50662dfcccde93795dab0bc373507cea9535d04fdd8322d"), looks := true }, kinds := [], alts := [], laidByText := true, laidKinds := [.handle], laidTests := true, laidLooks := .later }
def AggrBackCardSaid : Prop := Claim7.holds Tryd.pinned (.plain (OpenSpec.ofChange aggrBackSpec)) aggrBackCard

/-- THE SECOND FORM's CARD OF 'tidemilllaw08.AggrReads'. -/
def aggrReadsUptoCard : Claim7 := { stood := { row := aggrReadsUptoRow, standIns := [], harness := (true, "ba385465433efb7be50662dfcccde93795dab0bc373507cea9535d04fdd8322d"), looks := true }, kinds := [], alts := [], laidByText := true, laidKinds := [.handle], laidTests := true, laidLooks := .later }
def AggrReadsUptoCardSaid : Prop := Claim7.holds Tryd.pinned (.plain (OpenSpec.upto aggrReadsSpec)) aggrReadsUptoCard

/-- THE SECOND FORM's CARD OF 'tidemilllaw08.AggrBack'. -/
def aggrBackUptoCard : Claim7 := { stood := { row := aggrBackUptoRow, standIns := [], harness := (true, "ba385465433efb7be50662dfcccde93795dab0bc373507cea9535d04fdd8322d"), looks := true }, kinds := [], alts := [], laidByText := true, laidKinds := [.handle], laidTests := true, laidLooks := .later }
def AggrBackUptoCardSaid : Prop := Claim7.holds Tryd.pinned (.plain (OpenSpec.upto aggrBackSpec)) aggrBackUptoCard
end Rows
end Go.Proofs.YthhgnngpaagagaaDoor
