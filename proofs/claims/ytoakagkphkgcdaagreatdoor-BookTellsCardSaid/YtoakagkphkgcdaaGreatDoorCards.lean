/-
  DERIVED. GIVEN WITH THE SEED: THE CARDS: each row of YtoakagkphkgcdaaGreatDoorRows.lean that lists a variable, with what it lists TIED to the program's text (the seventh form; the later family's looks); each row that meets fmt, with fmt's text TOLD by the authors' own Lean function (tested against real Go, not proved from fmt's source: count such statements apart). THE CARD IS WHAT COUNTS. Prove the row's statement (the work); the ties are given (YtoakagkphkgcdaaGreatDoorTie.lean); close each card by the builder's one call (the guide's Derived/Test/ToyasCard.lean, 'card_holds'). Laid BY PROGRAM, IN A SANDBOX (cutbox-door.mjs). By AI agents, Wed Nov 11 2026. No macro, syntax, notation, axiom, sorry.
-/
import Derived.Test.YtoakagkphkgcdaaGreatDoorRows
import GoSem.ClaimSeven
namespace Go.Proofs.YtoakagkphkgcdaaGreatDoor
namespace Rows

/-- THE TIED CARD OF 'timeballlaw.TurnsTells'. -/
def turnsTellsCard : Claim7 := { stood := { row := turnsTellsRow, standIns := [], harness := (true, "9ed2c5c9377a4c763cae2a3263836751453417f2e28255635243d6d33a450761"), looks := false }, kinds := [], alts := [], laidByText := true, laidKinds := [.data, .data, .data], laidTests := true, laidLooks := .later }
def TurnsTellsCardSaid : Prop := Claim7.holds Tryz.pinned (.plain (OpenSpec.ofChange turnsTellsSpec)) turnsTellsCard

/-- THE TIED CARD OF 'timeballlaw.StateTells'. -/
def stateTellsCard : Claim7 := { stood := { row := stateTellsRow, standIns := [], harness := (true, "9ed2c5c9377a4c763cae2a3263836751453417f2e28255635243d6d33a450761"), looks := false }, kinds := [], alts := [], laidByText := true, laidKinds := [.data, .data, .data], laidTests := true, laidLooks := .later }
def StateTellsCardSaid : Prop := Claim7.holds Tryz.pinned (.plain (OpenSpec.ofChange stateTellsSpec)) stateTellsCard

/-- THE TIED CARD OF 'timeballlaw.BookTells'. -/
def bookTellsCard : Claim7 := { stood := { row := bookTellsRow, standIns := [], harness := (true, "9ed2c5c9377a4c763cae2a3263836751453417f2e28255635243d6d33a450761"), looks := false }, kinds := [], alts := [], laidByText := true, laidKinds := [.data, .data, .data, .data, .listed, .data, .pinned], laidTests := true, laidLooks := .later }
def BookTellsCardSaid : Prop := Claim7.holds Tryz.pinned (.plain (OpenSpec.ofChange bookTellsSpec)) bookTellsCard

/-- THE SECOND FORM's CARD OF 'timeballlaw.TurnsTells'. -/
def turnsTellsUptoCard : Claim7 := { stood := { row := turnsTellsUptoRow, standIns := [], harness := (true, "9ed2c5c9377a4c763cae2a3263836751453417f2e28255635243d6d33a450761"), looks := false }, kinds := [], alts := [], laidByText := true, laidKinds := [.data, .data, .data], laidTests := true, laidLooks := .later }
def TurnsTellsUptoCardSaid : Prop := Claim7.holds Tryz.pinned (.plain (OpenSpec.upto turnsTellsSpec)) turnsTellsUptoCard

/-- THE SECOND FORM's CARD OF 'timeballlaw.StateTells'. -/
def stateTellsUptoCard : Claim7 := { stood := { row := stateTellsUptoRow, standIns := [], harness := (true, "9ed2c5c9377a4c763cae2a3263836751453417f2e28255635243d6d33a450761"), looks := false }, kinds := [], alts := [], laidByText := true, laidKinds := [.data, .data, .data], laidTests := true, laidLooks := .later }
def StateTellsUptoCardSaid : Prop := Claim7.holds Tryz.pinned (.plain (OpenSpec.upto stateTellsSpec)) stateTellsUptoCard

/-- THE SECOND FORM's CARD OF 'timeballlaw.BookTells'. -/
def bookTellsUptoCard : Claim7 := { stood := { row := bookTellsUptoRow, standIns := [], harness := (true, "9ed2c5c9377a4c763cae2a3263836751453417f2e28255635243d6d33a450761"), looks := false }, kinds := [], alts := [], laidByText := true, laidKinds := [.data, .data, .data, .data, .listed, .data, .pinned], laidTests := true, laidLooks := .later }
def BookTellsUptoCardSaid : Prop := Claim7.holds Tryz.pinned (.plain (OpenSpec.upto bookTellsSpec)) bookTellsUptoCard
end Rows
end Go.Proofs.YtoakagkphkgcdaaGreatDoor
