/-
  DERIVED. GIVEN WITH THE SEED: THE CARDS: each row of YthppifcggmdmoaaGreatDoorRows.lean that lists a variable, with what it lists TIED to the program's text (the seventh form; the later family's looks); each row that meets fmt, with fmt's text TOLD by the authors' own Lean function (tested against real Go, not proved from fmt's source: count such statements apart). THE CARD IS WHAT COUNTS. Prove the row's statement (the work); the ties are given (YthppifcggmdmoaaGreatDoorTie.lean); close each card by the builder's one call (the guide's Derived/Test/ToyasCard.lean, 'card_holds'). Laid BY PROGRAM, IN A SANDBOX (cutbox-door.mjs). By AI agents, Wed Nov 11 2026. No macro, syntax, notation, axiom, sorry.
-/
import Derived.Test.YthppifcggmdmoaaGreatDoorRows
import GoSem.ClaimSeven
namespace Go.Proofs.YthppifcggmdmoaaGreatDoor
namespace Rows

/-- THE TIED CARD OF 'timeballlaw.BookParses'. -/
def bookParsesCard : Claim7 := { stood := { row := bookParsesRow, standIns := [], harness := (true, "9e945dfe7ebd4edced2baa8d77d8df4c2a5c8ee73fd994a3e3e08430af2b5d2f"), looks := true }, kinds := [], alts := [], laidByText := true, laidKinds := [.data, .data, .data, .data, .sentinel, .sentinel, .listed, .data, .pinned], laidTests := true, laidLooks := .later }
def BookParsesCardSaid : Prop := Claim7.holds Tryz.pinned (.plain (OpenSpec.ofChange bookParsesSpec)) bookParsesCard

/-- THE TIED CARD OF 'timeballtop.TopLater'. -/
def topLaterCard : Claim7 := { stood := { row := topLaterRow, standIns := [], harness := (true, "9e945dfe7ebd4edced2baa8d77d8df4c2a5c8ee73fd994a3e3e08430af2b5d2f"), looks := true }, kinds := [], alts := [], laidByText := true, laidKinds := [.data, .data, .data, .data, .sentinel, .sentinel, .listed, .data, .pinned], laidTests := true, laidLooks := .later }
def TopLaterCardSaid : Prop := Claim7.holds Tryz.pinned (.plain (OpenSpec.ofChange topLaterSpec)) topLaterCard

/-- THE TIED CARD OF 'timeballtop.TopWall'. -/
def topWallCard : Claim7 := { stood := { row := topWallRow, standIns := [], harness := (true, "9e945dfe7ebd4edced2baa8d77d8df4c2a5c8ee73fd994a3e3e08430af2b5d2f"), looks := true }, kinds := [], alts := [], laidByText := true, laidKinds := [.data, .data, .data, .data, .sentinel, .sentinel, .listed, .data, .pinned], laidTests := true, laidLooks := .later }
def TopWallCardSaid : Prop := Claim7.holds Tryz.pinned (.plain (OpenSpec.ofChange topWallSpec)) topWallCard

/-- THE SECOND FORM's CARD OF 'timeballlaw.BookParses'. -/
def bookParsesUptoCard : Claim7 := { stood := { row := bookParsesUptoRow, standIns := [], harness := (true, "9e945dfe7ebd4edced2baa8d77d8df4c2a5c8ee73fd994a3e3e08430af2b5d2f"), looks := true }, kinds := [], alts := [], laidByText := true, laidKinds := [.data, .data, .data, .data, .sentinel, .sentinel, .listed, .data, .pinned], laidTests := true, laidLooks := .later }
def BookParsesUptoCardSaid : Prop := Claim7.holds Tryz.pinned (.plain (OpenSpec.upto bookParsesSpec)) bookParsesUptoCard

/-- THE SECOND FORM's CARD OF 'timeballtop.TopLater'. -/
def topLaterUptoCard : Claim7 := { stood := { row := topLaterUptoRow, standIns := [], harness := (true, "9e945dfe7ebd4edced2baa8d77d8df4c2a5c8ee73fd994a3e3e08430af2b5d2f"), looks := true }, kinds := [], alts := [], laidByText := true, laidKinds := [.data, .data, .data, .data, .sentinel, .sentinel, .listed, .data, .pinned], laidTests := true, laidLooks := .later }
def TopLaterUptoCardSaid : Prop := Claim7.holds Tryz.pinned (.plain (OpenSpec.upto topLaterSpec)) topLaterUptoCard

/-- THE SECOND FORM's CARD OF 'timeballtop.TopWall'. -/
def topWallUptoCard : Claim7 := { stood := { row := topWallUptoRow, standIns := [], harness := (true, "9e945dfe7ebd4edced2baa8d77d8df4c2a5c8ee73fd994a3e3e08430af2b5d2f"), looks := true }, kinds := [], alts := [], laidByText := true, laidKinds := [.data, .data, .data, .data, .sentinel, .sentinel, .listed, .data, .pinned], laidTests := true, laidLooks := .later }
def TopWallUptoCardSaid : Prop := Claim7.holds Tryz.pinned (.plain (OpenSpec.upto topWallSpec)) topWallUptoCard
end Rows
end Go.Proofs.YthppifcggmdmoaaGreatDoor
