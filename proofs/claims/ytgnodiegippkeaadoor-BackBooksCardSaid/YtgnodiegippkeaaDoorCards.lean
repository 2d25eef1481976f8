/-
  DERIVED. GIVEN WITH THE SEED: THE CARDS: each row of YtgnodiegippkeaaDoorRows.lean that lists a variable, with what it lists TIED to the program's text (the seventh form; the later family's looks); each row that meets fmt, with fmt's text TOLD by the authors' own Lean function (tested against real Go, not proved from fmt's source: count such statements apart). THE CARD IS WHAT COUNTS. Prove the row's statement (the work); the ties are given (YtgnodiegippkeaaDoorTie.lean); close each card by the builder's one call (the guide's Derived/Test/ToyasCard.lean, 'card_holds'). Laid BY PROGRAM, IN A SANDBOX (cutbox-door.mjs). By AI agents, Wed Nov 11 2026. No macro, syntax, notation, axiom, sorry.
-/
import Derived.Test.YtgnodiegippkeaaDoorRows
import GoSem.ClaimSeven
namespace Go.Proofs.YtgnodiegippkeaaDoor
namespace Rows

/-- THE TIED CARD OF 'timeballlaw.DayTells'. -/
def dayTellsCard : Claim7 := { stood := { row := dayTellsRow, standIns := [], harness := (true, "c71649c597e1c479033fef8f3d6ecf93281434b16a692017f2104fe1e57d9f6c"), looks := false }, kinds := [], alts := [], laidByText := true, laidKinds := [.data, .data, .data], laidTests := true, laidLooks := .later }
def DayTellsCardSaid : Prop := Claim7.holds Tryd.pinned (.plain (OpenSpec.ofChange dayTellsSpec)) dayTellsCard

/-- THE TIED CARD OF 'timeballlaw.BackBooks'. -/
def backBooksCard : Claim7 := { stood := { row := backBooksRow, standIns := [], harness := (true, "c71649c597e1c479033fef8f3d6ecf93281434b16a692017f2104fe1e57d9f6c"), looks := false }, kinds := [], alts := [], laidByText := true, laidKinds := [.data, .data, .data], laidTests := true, laidLooks := .later }
def BackBooksCardSaid : Prop := Claim7.holds Tryd.pinned (.plain (OpenSpec.ofChange backBooksSpec)) backBooksCard

/-- THE TIED CARD OF 'timeballlaw.BackYears'. -/
def backYearsCard : Claim7 := { stood := { row := backYearsRow, standIns := [], harness := (true, "c71649c597e1c479033fef8f3d6ecf93281434b16a692017f2104fe1e57d9f6c"), looks := false }, kinds := [], alts := [], laidByText := true, laidKinds := [.data, .data, .data], laidTests := true, laidLooks := .later }
def BackYearsCardSaid : Prop := Claim7.holds Tryd.pinned (.plain (OpenSpec.ofChange backYearsSpec)) backYearsCard

/-- THE SECOND FORM's CARD OF 'timeballlaw.DayTells'. -/
def dayTellsUptoCard : Claim7 := { stood := { row := dayTellsUptoRow, standIns := [], harness := (true, "c71649c597e1c479033fef8f3d6ecf93281434b16a692017f2104fe1e57d9f6c"), looks := false }, kinds := [], alts := [], laidByText := true, laidKinds := [.data, .data, .data], laidTests := true, laidLooks := .later }
def DayTellsUptoCardSaid : Prop := Claim7.holds Tryd.pinned (.plain (OpenSpec.upto dayTellsSpec)) dayTellsUptoCard

/-- THE SECOND FORM's CARD OF 'timeballlaw.BackBooks'. -/
def backBooksUptoCard : Claim7 := { stood := { row := backBooksUptoRow, standIns := [], harness := (true, "c71649c597e1c479033fef8f3d6ecf93281434b16a692017f2104fe1e57d9f6c"), looks := false }, kinds := [], alts := [], laidByText := true, laidKinds := [.data, .data, .data], laidTests := true, laidLooks := .later }
def BackBooksUptoCardSaid : Prop := Claim7.holds Tryd.pinned (.plain (OpenSpec.upto backBooksSpec)) backBooksUptoCard

/-- THE SECOND FORM's CARD OF 'timeballlaw.BackYears'. -/
def backYearsUptoCard : Claim7 := { stood := { row := backYearsUptoRow, standIns := [], harness := (true, "c71649c597e1c479033fef8f3d6ecf93281434b16a692017f2104fe1e57d9f6c"), looks := false }, kinds := [], alts := [], laidByText := true, laidKinds := [.data, .data, .data], laidTests := true, laidLooks := .later }
def BackYearsUptoCardSaid : Prop := Claim7.holds Tryd.pinned (.plain (OpenSpec.upto backYearsSpec)) backYearsUptoCard
end Rows
end Go.Proofs.YtgnodiegippkeaaDoor
