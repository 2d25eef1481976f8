/-
  DERIVED. GIVEN WITH THE SEED: THE CARDS: each row of YtoakagkphkgcdaaDoorRows.lean that lists a variable, with what it lists TIED to the program's text (the seventh form; the later family's looks); each row that meets fmt, with fmt's text TOLD by the authors' own Lean function (tested against real Go, not proved from fmt's source: count such statements apart). THE CARD IS WHAT COUNTS. Prove the row's statement (the work); the ties are given (YtoakagkphkgcdaaDoorTie.lean); close each card by the builder's one call (the guide's Derived/Test/ToyasCard.lean, 'card_holds'). Laid BY PROGRAM, IN A SANDBOX (cutbox-door.mjs). By AI agents, Wed Nov 11 2026. No macro, syntax, notation, axiom, sorry.
-/
import Derived.Test.YtoakagkphkgcdaaDoorRows
import GoSem.ClaimSeven
namespace Go.Proofs.YtoakagkphkgcdaaDoor
namespace Rows

/-- THE TIED CARD OF 'timeballlaw.BookChecks'. -/
def bookChecksCard : Claim7 := { stood := { row := bookChecksRow, standIns := [], harness := (true, "a0dbecb91f1470c4ebc5db8fbb74cc3e398332df58a112a40a711063ba3ed9ee"), looks := false }, kinds := [], alts := [], laidByText := true, laidKinds := [.data, .data, .data], laidTests := true, laidLooks := .later }
def BookChecksCardSaid : Prop := Claim7.holds Tryd.pinned (.plain (OpenSpec.ofChange bookChecksSpec)) bookChecksCard

/-- THE TIED CARD OF 'timeballlaw.RuleTells'. -/
def ruleTellsCard : Claim7 := { stood := { row := ruleTellsRow, standIns := [], harness := (true, "a0dbecb91f1470c4ebc5db8fbb74cc3e398332df58a112a40a711063ba3ed9ee"), looks := false }, kinds := [], alts := [], laidByText := true, laidKinds := [.data, .data, .data, .data, .listed, .data, .pinned], laidTests := true, laidLooks := .later }
def RuleTellsCardSaid : Prop := Claim7.holds Tryd.pinned (.plain (OpenSpec.ofChange ruleTellsSpec)) ruleTellsCard

/-- THE TIED CARD OF 'timeballlaw.NamesResolves'. -/
def namesResolvesCard : Claim7 := { stood := { row := namesResolvesRow, standIns := [], harness := (true, "a0dbecb91f1470c4ebc5db8fbb74cc3e398332df58a112a40a711063ba3ed9ee"), looks := false }, kinds := [], alts := [], laidByText := true, laidKinds := [.data, .data, .data], laidTests := true, laidLooks := .later }
def NamesResolvesCardSaid : Prop := Claim7.holds Tryd.pinned (.plain (OpenSpec.ofChange namesResolvesSpec)) namesResolvesCard

/-- THE SECOND FORM's CARD OF 'timeballlaw.BookChecks'. -/
def bookChecksUptoCard : Claim7 := { stood := { row := bookChecksUptoRow, standIns := [], harness := (true, "a0dbecb91f1470c4ebc5db8fbb74cc3e398332df58a112a40a711063ba3ed9ee"), looks := false }, kinds := [], alts := [], laidByText := true, laidKinds := [.data, .data, .data], laidTests := true, laidLooks := .later }
def BookChecksUptoCardSaid : Prop := Claim7.holds Tryd.pinned (.plain (OpenSpec.upto bookChecksSpec)) bookChecksUptoCard

/-- THE SECOND FORM's CARD OF 'timeballlaw.RuleTells'. -/
def ruleTellsUptoCard : Claim7 := { stood := { row := ruleTellsUptoRow, standIns := [], harness := (true, "a0dbecb91f1470c4ebc5db8fbb74cc3e398332df58a112a40a711063ba3ed9ee"), looks := false }, kinds := [], alts := [], laidByText := true, laidKinds := [.data, .data, .data, .data, .listed, .data, .pinned], laidTests := true, laidLooks := .later }
def RuleTellsUptoCardSaid : Prop := Claim7.holds Tryd.pinned (.plain (OpenSpec.upto ruleTellsSpec)) ruleTellsUptoCard

/-- THE SECOND FORM's CARD OF 'timeballlaw.NamesResolves'. -/
def namesResolvesUptoCard : Claim7 := { stood := { row := namesResolvesUptoRow, standIns := [], harness := (true, "a0dbecb91f1470c4ebc5db8fbb74cc3e398332df58a112a40a711063ba3ed9ee"), looks := false }, kinds := [], alts := [], laidByText := true, laidKinds := [.data, .data, .data], laidTests := true, laidLooks := .later }
def NamesResolvesUptoCardSaid : Prop := Claim7.holds Tryd.pinned (.plain (OpenSpec.upto namesResolvesSpec)) namesResolvesUptoCard
end Rows
end Go.Proofs.YtoakagkphkgcdaaDoor
