/-
  DERIVED. GIVEN WITH THE SEED: THE CARDS: each row of YtopbbicjbjmdnaaDoorRows.lean that lists a variable, with what it lists TIED to the program's text (the seventh form; the later family's looks); each row that meets fmt, with fmt's text TOLD by the authors' own Lean function (tested against real Go, not proved from fmt's source: count such statements apart). THE CARD IS WHAT COUNTS. Prove the row's statement (the work); the ties are given (YtopbbicjbjmdnaaDoorTie.lean); close each card by the builder's one call (the guide's Derived/Test/ToyasCard.lean, 'card_holds'). Laid BY PROGRAM, IN A SANDBOX (cutbox-door.mjs). By AI agents, Wed Nov 11 2026. No macro, syntax, notation, axiom, sorry.
-/
import Derived.Test.YtopbbicjbjmdnaaDoorRows
import GoSem.ClaimSeven
namespace Go.Proofs.YtopbbicjbjmdnaaDoor
namespace Rows

/-- THE TIED CARD OF 'tidemilllaw14.SegmentNobody'. -/
def segmentNobodyCard : Claim7 := { stood := { row := segmentNobodyRow, standIns := [], harness := (true, "8f865c5ed8852e7335e11bf09cd1b3879fe40b1454827e4c176f6c0d03fa9f89"), looks := true }, kinds := [], alts := [], laidByText := true, laidKinds := [.handle], laidTests := true, laidLooks := .later }
def SegmentNobodyCardSaid : Prop := Claim7.holds Tryd.pinned (.plain (OpenSpec.ofChange segmentNobodySpec)) segmentNobodyCard

/-- THE SECOND FORM's CARD OF 'tidemilllaw14.SegmentNobody'. -/
def segmentNobodyUptoCard : Claim7 := { stood := { row := segmentNobodyUptoRow, standIns := [], harness := (true, "8f865c5ed8852e7335e11bf09cd1b3879fe40b1454827e4c176f6c0d03fa9f89"), looks := true }, kinds := [], alts := [], laidByText := true, laidKinds := [.handle], laidTests := true, laidLooks := .later }
def SegmentNobodyUptoCardSaid : Prop := Claim7.holds Tryd.pinned (.plain (OpenSpec.upto segmentNobodySpec)) segmentNobodyUptoCard
end Rows
end Go.Proofs.YtopbbicjbjmdnaaDoor
