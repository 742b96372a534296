/-
  DERIVED. GIVEN WITH THE SEED: THE CARDS: each row of YtboecnakndpgfaaDoorRows.lean that lists a variable, with what it lists TIED to the program's text (the seventh form; the later family's looks); each row that meets fmt, with fmt's text TOLD by the authors' own Lean function (tested against real Go, not proved from fmt's source: count such statements apart). THE CARD IS WHAT COUNTS. Prove the row's statement (the work); the ties are given (YtboecnakndpgfaaDoorTie.lean); close each card by the builder's one call (the guide's Derived/Test/ToyasCard.lean, 'card_holds'). Laid BY PROGRAM, IN A SANDBOX (cutbox-door.mjs). By AI agents, Wed Nov 11 2026. No macro, syntax, notation, axiom, sorry.
-/
import Derived.Test.YtboecnakndpgfaaDoorRows
import GoSem.ClaimSeven
namespace Go.Proofs.YtboecnakndpgfaaDoor
namespace Rows

/-- THE TIED CARD OF 'tidemilllaw13.ColumnDecodes'. -/
def columnDecodesCard : Claim7 := { stood := { row := columnDecodesRow, standIns := [], harness := (true, "75695b780ee9dd6af014c7e07b81f54bde3fa99bcf1c6e180514c4a6a2323d8f"), looks := true }, kinds := [], alts := [], laidByText := true, laidKinds := [.handle], laidTests := true, laidLooks := .later }
def ColumnDecodesCardSaid : Prop := Claim7.holds Tryd.pinned (.plain (OpenSpec.ofChange columnDecodesSpec)) columnDecodesCard

/-- THE TIED CARD OF 'tidemilllaw13.ColumnBack'. -/
def columnBackCard : Claim7 := { stood := { row := columnBackRow, standIns := [], harness := (true, "75695b780ee9dd6af014c7e07b81f54bde3fa99bcf1c6e180514c4a6a2323d8f"), looks := true }, kinds := [], alts := [], laidByText := true, laidKinds := [.handle], laidTests := true, laidLooks := .later }
def ColumnBackCardSaid : Prop := Claim7.holds Tryd.pinned (.plain (OpenSpec.ofChange columnBackSpec)) columnBackCard

/-- THE TIED CARD OF 'tidemilllaw13.ColumnBits'. -/
def columnBitsCard : Claim7 := { stood := { row := columnBitsRow, standIns := [], harness := (true, "75695b780ee9dd6af014c7e07b81f54bde3fa99bcf1c6e180514c4a6a2323d8f"), looks := true }, kinds := [], alts := [], laidByText := true, laidKinds := [.handle], laidTests := true, laidLooks := .later }
def ColumnBitsCardSaid : Prop := Claim7.holds Tryd.pinned (.plain (OpenSpec.ofChange columnBitsSpec)) columnBitsCard

/-- THE TIED CARD OF 'tidemilllaw13.ColumnOne'. -/
def columnOneCard : Claim7 := { stood := { row := columnOneRow, standIns := [], harness := (true, "75695b780ee9dd6af014c7e07b81f54bde3fa99bcf1c6e180514c4a6a2323d8f"), looks := true }, kinds := [], alts := [], laidByText := true, laidKinds := [.handle], laidTests := true, laidLooks := .later }
def ColumnOneCardSaid : Prop := Claim7.holds Tryd.pinned (.plain (OpenSpec.ofChange columnOneSpec)) columnOneCard

/-- THE TIED CARD OF 'tidemilllaw13.ColumnShort'. -/
def columnShortCard : Claim7 := { stood := { row := columnShortRow, standIns := [], harness := (true, "75695b780ee9dd6af014c7e07b81f54bde3fa99bcf1c6e180514c4a6a2323d8f"), looks := true }, kinds := [], alts := [], laidByText := true, laidKinds := [.handle], laidTests := true, laidLooks := .later }
def ColumnShortCardSaid : Prop := Claim7.holds Tryd.pinned (.plain (OpenSpec.ofChange columnShortSpec)) columnShortCard

/-- THE SECOND FORM's CARD OF 'tidemilllaw13.ColumnDecodes'. -/
def columnDecodesUptoCard : Claim7 := { stood := { row := columnDecodesUptoRow, standIns := [], harness := (true, "75695b780ee9dd6af014c7e07b81f54bde3fa99bcf1c6e180514c4a6a2323d8f"), looks := true }, kinds := [], alts := [], laidByText := true, laidKinds := [.handle], laidTests := true, laidLooks := .later }
def ColumnDecodesUptoCardSaid : Prop := Claim7.holds Tryd.pinned (.plain (OpenSpec.upto columnDecodesSpec)) columnDecodesUptoCard

/-- THE SECOND FORM's CARD OF 'tidemilllaw13.ColumnBack'. -/
def columnBackUptoCard : Claim7 := { stood := { row := columnBackUptoRow, standIns := [], harness := (true, "75695b780ee9dd6af014c7e07b81f54bde3fa99bcf1c6e180514c4a6a2323d8f"), looks := true }, kinds := [], alts := [], laidByText := true, laidKinds := [.handle], laidTests := true, laidLooks := .later }
def ColumnBackUptoCardSaid : Prop := Claim7.holds Tryd.pinned (.plain (OpenSpec.upto columnBackSpec)) columnBackUptoCard

/-- THE SECOND FORM's CARD OF 'tidemilllaw13.ColumnBits'. -/
def columnBitsUptoCard : Claim7 := { stood := { row := columnBitsUptoRow, standIns := [], harness := (true, "75695b780ee9dd6af014c7e07b81f54bde3fa99bcf1c6e180514c4a6a2323d8f"), looks := true }, kinds := [], alts := [], laidByText := true, laidKinds := [.handle], laidTests := true, laidLooks := .later }
def ColumnBitsUptoCardSaid : Prop := Claim7.holds Tryd.pinned (.plain (OpenSpec.upto columnBitsSpec)) columnBitsUptoCard

/-- THE SECOND FORM's CARD OF 'tidemilllaw13.ColumnOne'. -/
def columnOneUptoCard : Claim7 := { stood := { row := columnOneUptoRow, standIns := [], harness := (true, "75695b780ee9dd6af014c7e07b81f54bde3fa99bcf1c6e180514c4a6a2323d8f"), looks := true }, kinds := [], alts := [], laidByText := true, laidKinds := [.handle], laidTests := true, laidLooks := .later }
def ColumnOneUptoCardSaid : Prop := Claim7.holds Tryd.pinned (.plain (OpenSpec.upto columnOneSpec)) columnOneUptoCard

/-- THE SECOND FORM's CARD OF 'tidemilllaw13.ColumnShort'. -/
def columnShortUptoCard : Claim7 := { stood := { row := columnShortUptoRow, standIns := [], harness := (true, "75695b780ee9dd6af014c7e07b81f54bde3fa99bcf1c6e180514c4a6a2323d8f"), looks := true }, kinds := [], alts := [], laidByText := true, laidKinds := [.handle], laidTests := true, laidLooks := .later }
def ColumnShortUptoCardSaid : Prop := Claim7.holds Tryd.pinned (.plain (OpenSpec.upto columnShortSpec)) columnShortUptoCard
end Rows
end Go.Proofs.YtboecnakndpgfaaDoor
