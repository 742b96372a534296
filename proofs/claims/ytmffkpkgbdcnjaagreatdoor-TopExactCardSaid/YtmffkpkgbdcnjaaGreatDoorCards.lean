/-
  DERIVED. GIVEN WITH THE SEED: THE CARDS: each row of YtmffkpkgbdcnjaaGreatDoorRows.lean that lists a variable, with what it lists TIED to the program's text (the seventh form; the later family's looks); each row that meets fmt, with fmt's text TOLD by the authors' own Lean function (tested against real Go, not proved from fmt's source: count such statements apart). THE CARD IS WHAT COUNTS. Prove the row's statement (the work); the ties are given (YtmffkpkgbdcnjaaGreatDoorTie.lean); close each card by the builder's one call (the guide's Derived/Test/ToyasCard.lean, 'card_holds'). Laid BY PROGRAM, IN A SANDBOX (cutbox-door.mjs). By AI agents, Wed Nov 11 2026. No macro, syntax, notation, axiom, sorry.
-/
import Derived.Test.YtmffkpkgbdcnjaaGreatDoorRows
import GoSem.ClaimSeven
namespace Go.Proofs.YtmffkpkgbdcnjaaGreatDoor
namespace Rows

/-- THE TIED CARD OF 'tidemilltop.TopLimits'. -/
def topLimitsCard : Claim7 := { stood := { row := topLimitsRow, standIns := [], harness := (true, "be7987d50e0e3346fc280c97a244557636b196415fc81f08bb18ef1d7c92eb56"), looks := true }, kinds := [], alts := [], laidByText := true, laidKinds := [.handle], laidTests := true, laidLooks := .later }
def TopLimitsCardSaid : Prop := Claim7.holds Tryz.pinned (.plain (OpenSpec.ofChange topLimitsSpec)) topLimitsCard

/-- THE TIED CARD OF 'tidemilltop.TopExact'. -/
def topExactCard : Claim7 := { stood := { row := topExactRow, standIns := [], harness := (true, "be7987d50e0e3346fc280c97a244557636b196415fc81f08bb18ef1d7c92eb56"), looks := true }, kinds := [], alts := [], laidByText := true, laidKinds := [.handle], laidTests := true, laidLooks := .later }
def TopExactCardSaid : Prop := Claim7.holds Tryz.pinned (.plain (OpenSpec.ofChange topExactSpec)) topExactCard

/-- THE TIED CARD OF 'tidemilltop.TopWater'. -/
def topWaterCard : Claim7 := { stood := { row := topWaterRow, standIns := [], harness := (true, "be7987d50e0e3346fc280c97a244557636b196415fc81f08bb18ef1d7c92eb56"), looks := true }, kinds := [], alts := [], laidByText := true, laidKinds := [.handle], laidTests := true, laidLooks := .later }
def TopWaterCardSaid : Prop := Claim7.holds Tryz.pinned (.plain (OpenSpec.ofChange topWaterSpec)) topWaterCard

/-- THE SECOND FORM's CARD OF 'tidemilltop.TopLimits'. -/
def topLimitsUptoCard : Claim7 := { stood := { row := topLimitsUptoRow, standIns := [], harness := (true, "be7987d50e0e3346fc280c97a244557636b196415fc81f08bb18ef1d7c92eb56"), looks := true }, kinds := [], alts := [], laidByText := true, laidKinds := [.handle], laidTests := true, laidLooks := .later }
def TopLimitsUptoCardSaid : Prop := Claim7.holds Tryz.pinned (.plain (OpenSpec.upto topLimitsSpec)) topLimitsUptoCard

/-- THE SECOND FORM's CARD OF 'tidemilltop.TopExact'. -/
def topExactUptoCard : Claim7 := { stood := { row := topExactUptoRow, standIns := [], harness := (true, "be7987d50e0e3346fc280c97a244557636b196415fc81f08bb18ef1d7c92eb56"), looks := true }, kinds := [], alts := [], laidByText := true, laidKinds := [.handle], laidTests := true, laidLooks := .later }
def TopExactUptoCardSaid : Prop := Claim7.holds Tryz.pinned (.plain (OpenSpec.upto topExactSpec)) topExactUptoCard

/-- THE SECOND FORM's CARD OF 'tidemilltop.TopWater'. -/
def topWaterUptoCard : Claim7 := { stood := { row := topWaterUptoRow, standIns := [], harness := (true, "be7987d50e0e3346fc280c97a244557636b196415fc81f08bb18ef1d7c92eb56"), looks := true }, kinds := [], alts := [], laidByText := true, laidKinds := [.handle], laidTests := true, laidLooks := .later }
def TopWaterUptoCardSaid : Prop := Claim7.holds Tryz.pinned (.plain (OpenSpec.upto topWaterSpec)) topWaterUptoCard
end Rows
end Go.Proofs.YtmffkpkgbdcnjaaGreatDoor
