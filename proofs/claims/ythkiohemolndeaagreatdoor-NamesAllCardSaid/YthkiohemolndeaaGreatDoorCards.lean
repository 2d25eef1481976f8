/-
  DERIVED. GIVEN WITH THE SEED: THE CARDS: each row of YthkiohemolndeaaGreatDoorRows.lean that lists a variable, with what it lists TIED to the program's text (the seventh form; the later family's looks); each row that meets fmt, with fmt's text TOLD by the authors' own Lean function (tested against real Go, not proved from fmt's source: count such statements apart). THE CARD IS WHAT COUNTS. Prove the row's statement (the work); the ties are given (YthkiohemolndeaaGreatDoorTie.lean); close each card by the builder's one call (the guide's Derived/Test/ToyasCard.lean, 'card_holds'). Laid BY PROGRAM, IN A SANDBOX (cutbox-door.mjs). By AI agents, Wed Nov 11 2026. No macro, syntax, notation, axiom, sorry.
-/
import Derived.Test.YthkiohemolndeaaGreatDoorRows
import GoSem.ClaimSeven
namespace Go.Proofs.YthkiohemolndeaaGreatDoor
namespace Rows

/-- THE TIED CARD OF 'timeballlaw.NamesAll'. -/
def namesAllCard : Claim7 := { stood := { row := namesAllRow, standIns := [], harness := (true, "71cbd27f3a888cbc4f90d9e7bdc6d319ae5c2bb2efea5ecc156a859ff46d125e"), looks := false }, kinds := [], alts := [], laidByText := true, laidKinds := [.data, .data, .data], laidTests := true, laidLooks := .later }
def NamesAllCardSaid : Prop := Claim7.holds Tryz.pinned (.plain (OpenSpec.ofChange namesAllSpec)) namesAllCard

/-- THE TIED CARD OF 'timeballlaw.TurnsTells'. -/
def turnsTellsCard : Claim7 := { stood := { row := turnsTellsRow, standIns := [], harness := (true, "71cbd27f3a888cbc4f90d9e7bdc6d319ae5c2bb2efea5ecc156a859ff46d125e"), looks := false }, kinds := [], alts := [], laidByText := true, laidKinds := [.data, .data, .data], laidTests := true, laidLooks := .later }
def TurnsTellsCardSaid : Prop := Claim7.holds Tryz.pinned (.plain (OpenSpec.ofChange turnsTellsSpec)) turnsTellsCard

/-- THE TIED CARD OF 'timeballlaw.StateTells'. -/
def stateTellsCard : Claim7 := { stood := { row := stateTellsRow, standIns := [], harness := (true, "71cbd27f3a888cbc4f90d9e7bdc6d319ae5c2bb2efea5ecc156a859ff46d125e"), looks := false }, kinds := [], alts := [], laidByText := true, laidKinds := [.data, .data, .data], laidTests := true, laidLooks := .later }
def StateTellsCardSaid : Prop := Claim7.holds Tryz.pinned (.plain (OpenSpec.ofChange stateTellsSpec)) stateTellsCard

/-- THE SECOND FORM's CARD OF 'timeballlaw.NamesAll'. -/
def namesAllUptoCard : Claim7 := { stood := { row := namesAllUptoRow, standIns := [], harness := (true, "71cbd27f3a888cbc4f90d9e7bdc6d319ae5c2bb2efea5ecc156a859ff46d125e"), looks := false }, kinds := [], alts := [], laidByText := true, laidKinds := [.data, .data, .data], laidTests := true, laidLooks := .later }
def NamesAllUptoCardSaid : Prop := Claim7.holds Tryz.pinned (.plain (OpenSpec.upto namesAllSpec)) namesAllUptoCard

/-- THE SECOND FORM's CARD OF 'timeballlaw.TurnsTells'. -/
def turnsTellsUptoCard : Claim7 := { stood := { row := turnsTellsUptoRow, standIns := [], harness := (true, "71cbd27f3a888cbc4f90d9e7bdc6d319ae5c2bb2efea5ecc156a859ff46d125e"), looks := false }, kinds := [], alts := [], laidByText := true, laidKinds := [.data, .data, .data], laidTests := true, laidLooks := .later }
def TurnsTellsUptoCardSaid : Prop := Claim7.holds Tryz.pinned (.plain (OpenSpec.upto turnsTellsSpec)) turnsTellsUptoCard

/-- THE SECOND FORM's CARD OF 'timeballlaw.StateTells'. -/
def stateTellsUptoCard : Claim7 := { stood := { row := stateTellsUptoRow, standIns := [], harness := (true, "71cbd27f3a888cbc4f90d9e7bdc6d319ae5c2bb2efea5ecc156a859ff46d125e"), looks := false }, kinds := [], alts := [], laidByText := true, laidKinds := [.data, .data, .data], laidTests := true, laidLooks := .later }
def StateTellsUptoCardSaid : Prop := Claim7.holds Tryz.pinned (.plain (OpenSpec.upto stateTellsSpec)) stateTellsUptoCard
end Rows
end Go.Proofs.YthkiohemolndeaaGreatDoor
