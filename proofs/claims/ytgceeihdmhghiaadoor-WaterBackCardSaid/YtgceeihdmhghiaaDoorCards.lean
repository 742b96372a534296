/-
  DERIVED. GIVEN WITH THE SEED: THE CARDS: each row of YtgceeihdmhghiaaDoorRows.lean that lists a variable, with what it lists TIED to the program's text (the seventh form; the later family's looks); each row that meets fmt, with fmt's text TOLD by the authors' own Lean function (tested against real Go, not proved from fmt's source: count such statements apart). THE CARD IS WHAT COUNTS. Prove the row's statement (the work); the ties are given (YtgceeihdmhghiaaDoorTie.lean); close each card by the builder's one call (the guide's Derived/Test/ToyasCard.lean, 'card_holds'). Laid BY PROGRAM, IN A SANDBOX (cutbox-door.mjs). By AI agents, Wed Nov 11 2026. No macro, syntax, notation, axiom, sorry.
-/
import Derived.Test.YtgceeihdmhghiaaDoorRows
import GoSem.ClaimSeven
namespace Go.Proofs.YtgceeihdmhghiaaDoor
namespace Rows

/-- THE TIED CARD OF 'tidemilllaw03.VarintOne'. -/
def varintOneCard : Claim7 := { stood := { row := varintOneRow, standIns := [], harness := (true, "1e3013d6c93323a454c7f5439ab1a4c83d7ee689620137403996705018aee33c"), looks := true }, kinds := [], alts := [], laidByText := true, laidKinds := [.handle], laidTests := true, laidLooks := .later }
def VarintOneCardSaid : Prop := Claim7.holds Tryd.pinned (.plain (OpenSpec.ofChange varintOneSpec)) varintOneCard

/-- THE TIED CARD OF 'tidemilllaw03.VarintBack'. -/
def varintBackCard : Claim7 := { stood := { row := varintBackRow, standIns := [], harness := (true, "1e3013d6c93323a454c7f5439ab1a4c83d7ee689620137403996705018aee33c"), looks := true }, kinds := [], alts := [], laidByText := true, laidKinds := [.handle], laidTests := true, laidLooks := .later }
def VarintBackCardSaid : Prop := Claim7.holds Tryd.pinned (.plain (OpenSpec.ofChange varintBackSpec)) varintBackCard

/-- THE TIED CARD OF 'tidemilllaw17.WaterReads'. -/
def waterReadsCard : Claim7 := { stood := { row := waterReadsRow, standIns := [], harness := (true, "1e3013d6c93323a454c7f5439ab1a4c83d7ee689620137403996705018aee33c"), looks := true }, kinds := [], alts := [], laidByText := true, laidKinds := [.handle], laidTests := true, laidLooks := .later }
def WaterReadsCardSaid : Prop := Claim7.holds Tryd.pinned (.plain (OpenSpec.ofChange waterReadsSpec)) waterReadsCard

/-- THE TIED CARD OF 'tidemilllaw17.WaterBack'. -/
def waterBackCard : Claim7 := { stood := { row := waterBackRow, standIns := [], harness := (true, "1e3013d6c93323a454c7f5439ab1a4c83d7ee689620137403996705018aee33c"), looks := true }, kinds := [], alts := [], laidByText := true, laidKinds := [.handle], laidTests := true, laidLooks := .later }
def WaterBackCardSaid : Prop := Claim7.holds Tryd.pinned (.plain (OpenSpec.ofChange waterBackSpec)) waterBackCard

/-- THE SECOND FORM's CARD OF 'tidemilllaw03.VarintOne'. -/
def varintOneUptoCard : Claim7 := { stood := { row := varintOneUptoRow, standIns := [], harness := (true, "1e3013d6c93323a454c7f5439ab1a4c83d7ee689620137403996705018aee33c"), looks := true }, kinds := [], alts := [], laidByText := true, laidKinds := [.handle], laidTests := true, laidLooks := .later }
def VarintOneUptoCardSaid : Prop := Claim7.holds Tryd.pinned (.plain (OpenSpec.upto varintOneSpec)) varintOneUptoCard

/-- THE SECOND FORM's CARD OF 'tidemilllaw03.VarintBack'. -/
def varintBackUptoCard : Claim7 := { stood := { row := varintBackUptoRow, standIns := [], harness := (true, "1e3013d6c93323a454c7f5439ab1a4c83d7ee689620137403996705018aee33c"), looks := true }, kinds := [], alts := [], laidByText := true, laidKinds := [.handle], laidTests := true, laidLooks := .later }
def VarintBackUptoCardSaid : Prop := Claim7.holds Tryd.pinned (.plain (OpenSpec.upto varintBackSpec)) varintBackUptoCard

/-- THE SECOND FORM's CARD OF 'tidemilllaw17.WaterReads'. -/
def waterReadsUptoCard : Claim7 := { stood := { row := waterReadsUptoRow, standIns := [], harness := (true, "1e3013d6c93323a454c7f5439ab1a4c83d7ee689620137403996705018aee33c"), looks := true }, kinds := [], alts := [], laidByText := true, laidKinds := [.handle], laidTests := true, laidLooks := .later }
def WaterReadsUptoCardSaid : Prop := Claim7.holds Tryd.pinned (.plain (OpenSpec.upto waterReadsSpec)) waterReadsUptoCard

/-- THE SECOND FORM's CARD OF 'tidemilllaw17.WaterBack'. -/
def waterBackUptoCard : Claim7 := { stood := { row := waterBackUptoRow, standIns := [], harness := (true, "1e3013d6c93323a454c7f5439ab1a4c83d7ee689620137403996705018aee33c"), looks := true }, kinds := [], alts := [], laidByText := true, laidKinds := [.handle], laidTests := true, laidLooks := .later }
def WaterBackUptoCardSaid : Prop := Claim7.holds Tryd.pinned (.plain (OpenSpec.upto waterBackSpec)) waterBackUptoCard
end Rows
end Go.Proofs.YtgceeihdmhghiaaDoor
