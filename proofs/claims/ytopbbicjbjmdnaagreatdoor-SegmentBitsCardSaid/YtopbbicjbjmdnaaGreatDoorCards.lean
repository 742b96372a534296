/-
  DERIVED. GIVEN WITH THE SEED: THE CARDS: each row of YtopbbicjbjmdnaaGreatDoorRows.lean that lists a variable, with what it lists TIED to the program's text (the seventh form; the later family's looks); each row that meets fmt, with fmt's text TOLD by the authors' own Lean function (tested against real Go, not proved from fmt's source: count such statements apart). THE CARD IS WHAT COUNTS. Prove the row's statement (the work); the ties are given (YtopbbicjbjmdnaaGreatDoorTie.lean); close each card by the builder's one call (the guide's Derived/Test/ToyasCard.lean, 'card_holds'). Laid BY PROGRAM, IN A SANDBOX (cutbox-door.mjs). By AI agents, Wed Nov 11 2026. No macro, syntax, notation, axiom, sorry.
-/
import Derived.Test.YtopbbicjbjmdnaaGreatDoorRows
import GoSem.ClaimSeven
namespace Go.Proofs.YtopbbicjbjmdnaaGreatDoor
namespace Rows

/-- THE TIED CARD OF 'tidemilllaw14.SegmentBits'. -/
def segmentBitsCard : Claim7 := { stood := { row := segmentBitsRow, standIns := [], harness := (true, "85ec8cc150468e2cfb343786411df21ce7bc201753f31518ca94274e3f6dd7ee"), looks := true }, kinds := [], alts := [], laidByText := true, laidKinds := [.handle], laidTests := true, laidLooks := .later }
def SegmentBitsCardSaid : Prop := Claim7.holds Tryz.pinned (.plain (OpenSpec.ofChange segmentBitsSpec)) segmentBitsCard

/-- THE TIED CARD OF 'tidemilllaw14.SegmentBack'. -/
def segmentBackCard : Claim7 := { stood := { row := segmentBackRow, standIns := [], harness := (true, "85ec8cc150468e2cfb343786411df21ce7bc201753f31518ca94274e3f6dd7ee"), looks := true }, kinds := [], alts := [], laidByText := true, laidKinds := [.handle], laidTests := true, laidLooks := .later }
def SegmentBackCardSaid : Prop := Claim7.holds Tryz.pinned (.plain (OpenSpec.ofChange segmentBackSpec)) segmentBackCard

/-- THE TIED CARD OF 'tidemilllaw14.SegmentMany'. -/
def segmentManyCard : Claim7 := { stood := { row := segmentManyRow, standIns := [], harness := (true, "85ec8cc150468e2cfb343786411df21ce7bc201753f31518ca94274e3f6dd7ee"), looks := true }, kinds := [], alts := [], laidByText := true, laidKinds := [.handle], laidTests := true, laidLooks := .later }
def SegmentManyCardSaid : Prop := Claim7.holds Tryz.pinned (.plain (OpenSpec.ofChange segmentManySpec)) segmentManyCard

/-- THE TIED CARD OF 'tidemilllaw14.SegmentSplits'. -/
def segmentSplitsCard : Claim7 := { stood := { row := segmentSplitsRow, standIns := [], harness := (true, "85ec8cc150468e2cfb343786411df21ce7bc201753f31518ca94274e3f6dd7ee"), looks := true }, kinds := [], alts := [], laidByText := true, laidKinds := [.handle], laidTests := true, laidLooks := .later }
def SegmentSplitsCardSaid : Prop := Claim7.holds Tryz.pinned (.plain (OpenSpec.ofChange segmentSplitsSpec)) segmentSplitsCard

/-- THE SECOND FORM's CARD OF 'tidemilllaw14.SegmentBits'. -/
def segmentBitsUptoCard : Claim7 := { stood := { row := segmentBitsUptoRow, standIns := [], harness := (true, "85ec8cc150468e2cfb343786411df21ce7bc201753f31518ca94274e3f6dd7ee"), looks := true }, kinds := [], alts := [], laidByText := true, laidKinds := [.handle], laidTests := true, laidLooks := .later }
def SegmentBitsUptoCardSaid : Prop := Claim7.holds Tryz.pinned (.plain (OpenSpec.upto segmentBitsSpec)) segmentBitsUptoCard

/-- THE SECOND FORM's CARD OF 'tidemilllaw14.SegmentBack'. -/
def segmentBackUptoCard : Claim7 := { stood := { row := segmentBackUptoRow, standIns := [], harness := (true, "85ec8cc150468e2cfb343786411df21ce7bc201753f31518ca94274e3f6dd7ee"), looks := true }, kinds := [], alts := [], laidByText := true, laidKinds := [.handle], laidTests := true, laidLooks := .later }
def SegmentBackUptoCardSaid : Prop := Claim7.holds Tryz.pinned (.plain (OpenSpec.upto segmentBackSpec)) segmentBackUptoCard

/-- THE SECOND FORM's CARD OF 'tidemilllaw14.SegmentMany'. -/
def segmentManyUptoCard : Claim7 := { stood := { row := segmentManyUptoRow, standIns := [], harness := (true, "85ec8cc150468e2cfb343786411df21ce7bc201753f31518ca94274e3f6dd7ee"), looks := true }, kinds := [], alts := [], laidByText := true, laidKinds := [.handle], laidTests := true, laidLooks := .later }
def SegmentManyUptoCardSaid : Prop := Claim7.holds Tryz.pinned (.plain (OpenSpec.upto segmentManySpec)) segmentManyUptoCard

/-- THE SECOND FORM's CARD OF 'tidemilllaw14.SegmentSplits'. -/
def segmentSplitsUptoCard : Claim7 := { stood := { row := segmentSplitsUptoRow, standIns := [], harness := (true, "85ec8cc150468e2cfb343786411df21ce7bc201753f31518ca94274e3f6dd7ee"), looks := true }, kinds := [], alts := [], laidByText := true, laidKinds := [.handle], laidTests := true, laidLooks := .later }
def SegmentSplitsUptoCardSaid : Prop := Claim7.holds Tryz.pinned (.plain (OpenSpec.upto segmentSplitsSpec)) segmentSplitsUptoCard
end Rows
end Go.Proofs.YtopbbicjbjmdnaaGreatDoor
