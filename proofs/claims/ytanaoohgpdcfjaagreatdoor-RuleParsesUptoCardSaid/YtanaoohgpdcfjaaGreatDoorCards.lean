/-
  DERIVED. GIVEN WITH THE SEED: THE CARDS: each row of YtanaoohgpdcfjaaGreatDoorRows.lean that lists a variable, with what it lists TIED to the program's text (the seventh form; the later family's looks); each row that meets fmt, with fmt's text TOLD by the authors' own Lean function (tested against real Go, not proved from fmt's source: count such statements apart). THE CARD IS WHAT COUNTS. Prove the row's statement (the work); the ties are given (YtanaoohgpdcfjaaGreatDoorTie.lean); close each card by the builder's one call (the guide's Derived/Test/ToyasCard.lean, 'card_holds'). Laid BY PROGRAM, IN A SANDBOX (cutbox-door.mjs). By AI agents, Wed Nov 11 2026. No macro, syntax, notation, axiom, sorry.
-/
import Derived.Test.YtanaoohgpdcfjaaGreatDoorRows
import GoSem.ClaimSeven
namespace Go.Proofs.YtanaoohgpdcfjaaGreatDoor
namespace Rows

/-- THE TIED CARD OF 'timeballlaw.TurnsTells'. -/
def turnsTellsCard : Claim7 := { stood := { row := turnsTellsRow, standIns := [], harness := (true, "ee7847e288fee7e66eef2716021ccc79dd465b389d4d501099d400172deb19b5"), looks := true }, kinds := [], alts := [], laidByText := true, laidKinds := [.data, .data, .data], laidTests := true, laidLooks := .later }
def TurnsTellsCardSaid : Prop := Claim7.holds Tryz.pinned (.plain (OpenSpec.ofChange turnsTellsSpec)) turnsTellsCard

/-- THE TIED CARD OF 'timeballlaw.StateTells'. -/
def stateTellsCard : Claim7 := { stood := { row := stateTellsRow, standIns := [], harness := (true, "ee7847e288fee7e66eef2716021ccc79dd465b389d4d501099d400172deb19b5"), looks := true }, kinds := [], alts := [], laidByText := true, laidKinds := [.data, .data, .data], laidTests := true, laidLooks := .later }
def StateTellsCardSaid : Prop := Claim7.holds Tryz.pinned (.plain (OpenSpec.ofChange stateTellsSpec)) stateTellsCard

/-- THE TIED CARD OF 'timeballlaw.TableMakes'. -/
def tableMakesCard : Claim7 := { stood := { row := tableMakesRow, standIns := [], harness := (true, "ee7847e288fee7e66eef2716021ccc79dd465b389d4d501099d400172deb19b5"), looks := true }, kinds := [], alts := [], laidByText := true, laidKinds := [.data, .data, .data], laidTests := true, laidLooks := .later }
def TableMakesCardSaid : Prop := Claim7.holds Tryz.pinned (.plain (OpenSpec.ofChange tableMakesSpec)) tableMakesCard

/-- THE TIED CARD OF 'timeballlaw.RuleParses'. -/
def ruleParsesCard : Claim7 := { stood := { row := ruleParsesRow, standIns := [], harness := (true, "ee7847e288fee7e66eef2716021ccc79dd465b389d4d501099d400172deb19b5"), looks := true }, kinds := [], alts := [], laidByText := true, laidKinds := [.data, .data, .data, .data, .sentinel, .sentinel, .listed, .data, .pinned], laidTests := true, laidLooks := .later }
def RuleParsesCardSaid : Prop := Claim7.holds Tryz.pinned (.plain (OpenSpec.ofChange ruleParsesSpec)) ruleParsesCard

/-- THE TIED CARD OF 'timeballlaw.BookParses'. -/
def bookParsesCard : Claim7 := { stood := { row := bookParsesRow, standIns := [], harness := (true, "ee7847e288fee7e66eef2716021ccc79dd465b389d4d501099d400172deb19b5"), looks := true }, kinds := [], alts := [], laidByText := true, laidKinds := [.data, .data, .data, .data, .sentinel, .sentinel, .listed, .data, .pinned], laidTests := true, laidLooks := .later }
def BookParsesCardSaid : Prop := Claim7.holds Tryz.pinned (.plain (OpenSpec.ofChange bookParsesSpec)) bookParsesCard

/-- THE TIED CARD OF 'timeballtop.TopLater'. -/
def topLaterCard : Claim7 := { stood := { row := topLaterRow, standIns := [], harness := (true, "ee7847e288fee7e66eef2716021ccc79dd465b389d4d501099d400172deb19b5"), looks := true }, kinds := [], alts := [], laidByText := true, laidKinds := [.data, .data, .data, .data, .sentinel, .sentinel, .listed, .data, .pinned], laidTests := true, laidLooks := .later }
def TopLaterCardSaid : Prop := Claim7.holds Tryz.pinned (.plain (OpenSpec.ofChange topLaterSpec)) topLaterCard

/-- THE SECOND FORM's CARD OF 'timeballlaw.TurnsTells'. -/
def turnsTellsUptoCard : Claim7 := { stood := { row := turnsTellsUptoRow, standIns := [], harness := (true, "ee7847e288fee7e66eef2716021ccc79dd465b389d4d501099d400172deb19b5"), looks := true }, kinds := [], alts := [], laidByText := true, laidKinds := [.data, .data, .data], laidTests := true, laidLooks := .later }
def TurnsTellsUptoCardSaid : Prop := Claim7.holds Tryz.pinned (.plain (OpenSpec.upto turnsTellsSpec)) turnsTellsUptoCard

/-- THE SECOND FORM's CARD OF 'timeballlaw.StateTells'. -/
def stateTellsUptoCard : Claim7 := { stood := { row := stateTellsUptoRow, standIns := [], harness := (true, "ee7847e288fee7e66eef2716021ccc79dd465b389d4d501099d400172deb19b5"), looks := true }, kinds := [], alts := [], laidByText := true, laidKinds := [.data, .data, .data], laidTests := true, laidLooks := .later }
def StateTellsUptoCardSaid : Prop := Claim7.holds Tryz.pinned (.plain (OpenSpec.upto stateTellsSpec)) stateTellsUptoCard

/-- THE SECOND FORM's CARD OF 'timeballlaw.TableMakes'. -/
def tableMakesUptoCard : Claim7 := { stood := { row := tableMakesUptoRow, standIns := [], harness := (true, "ee7847e288fee7e66eef2716021ccc79dd465b389d4d501099d400172deb19b5"), looks := true }, kinds := [], alts := [], laidByText := true, laidKinds := [.data, .data, .data], laidTests := true, laidLooks := .later }
def TableMakesUptoCardSaid : Prop := Claim7.holds Tryz.pinned (.plain (OpenSpec.upto tableMakesSpec)) tableMakesUptoCard

/-- THE SECOND FORM's CARD OF 'timeballlaw.RuleParses'. -/
def ruleParsesUptoCard : Claim7 := { stood := { row := ruleParsesUptoRow, standIns := [], harness := (true, "ee7847e288fee7e66eef2716021ccc79dd465b389d4d501099d400172deb19b5"), looks := true }, kinds := [], alts := [], laidByText := true, laidKinds := [.data, .data, .data, .data, .sentinel, .sentinel, .listed, .data, .pinned], laidTests := true, laidLooks := .later }
def RuleParsesUptoCardSaid : Prop := Claim7.holds Tryz.pinned (.plain (OpenSpec.upto ruleParsesSpec)) ruleParsesUptoCard

/-- THE SECOND FORM's CARD OF 'timeballlaw.BookParses'. -/
def bookParsesUptoCard : Claim7 := { stood := { row := bookParsesUptoRow, standIns := [], harness := (true, "ee7847e288fee7e66eef2716021ccc79dd465b389d4d501099d400172deb19b5"), looks := true }, kinds := [], alts := [], laidByText := true, laidKinds := [.data, .data, .data, .data, .sentinel, .sentinel, .listed, .data, .pinned], laidTests := true, laidLooks := .later }
def BookParsesUptoCardSaid : Prop := Claim7.holds Tryz.pinned (.plain (OpenSpec.upto bookParsesSpec)) bookParsesUptoCard

/-- THE SECOND FORM's CARD OF 'timeballtop.TopLater'. -/
def topLaterUptoCard : Claim7 := { stood := { row := topLaterUptoRow, standIns := [], harness := (true, "ee7847e288fee7e66eef2716021ccc79dd465b389d4d501099d400172deb19b5"), looks := true }, kinds := [], alts := [], laidByText := true, laidKinds := [.data, .data, .data, .data, .sentinel, .sentinel, .listed, .data, .pinned], laidTests := true, laidLooks := .later }
def TopLaterUptoCardSaid : Prop := Claim7.holds Tryz.pinned (.plain (OpenSpec.upto topLaterSpec)) topLaterUptoCard
end Rows
end Go.Proofs.YtanaoohgpdcfjaaGreatDoor
