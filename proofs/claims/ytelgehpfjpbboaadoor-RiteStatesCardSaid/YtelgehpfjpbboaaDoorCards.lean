/-
  DERIVED. GIVEN WITH THE SEED: THE CARDS: each row of YtelgehpfjpbboaaDoorRows.lean that lists a variable, with what it lists TIED to the program's text (the seventh form; the later family's looks); each row that meets fmt, with fmt's text TOLD by the authors' own Lean function (tested against real Go, not proved from fmt's source: count such statements apart). THE CARD IS WHAT COUNTS. Prove the row's statement (the work); the ties are given (YtelgehpfjpbboaaDoorTie.lean); close each card by the builder's one call (the guide's Derived/Test/ToyasCard.lean, 'card_holds'). Laid BY PROGRAM, IN A SANDBOX (cutbox-door.mjs). By AI agents, Wed Nov 11 2026. No macro, syntax, notation, axiom, sorry.
-/
import Derived.Test.YtelgehpfjpbboaaDoorRows
import GoSem.ClaimSeven
namespace Go.Proofs.YtelgehpfjpbboaaDoor
namespace Rows

/-- THE TIED CARD OF 'timeballlaw.RiteTells'. -/
def riteTellsCard : Claim7 := { stood := { row := riteTellsRow, standIns := [], harness := (true, "2c13cc3c0be856691f46dd526740abe7bf97395facf5606fab4c993c118b1122"), looks := true }, kinds := [], alts := [], laidByText := true, laidKinds := [.data, .data, .data], laidTests := true, laidLooks := .later }
def RiteTellsCardSaid : Prop := Claim7.holds Tryd.pinned (.plain (OpenSpec.ofChange riteTellsSpec)) riteTellsCard

/-- THE TIED CARD OF 'timeballlaw.ClockSpans'. -/
def clockSpansCard : Claim7 := { stood := { row := clockSpansRow, standIns := [], harness := (true, "2c13cc3c0be856691f46dd526740abe7bf97395facf5606fab4c993c118b1122"), looks := true }, kinds := [], alts := [], laidByText := true, laidKinds := [.data, .data, .data, .data, .sentinel, .sentinel, .pinned], laidTests := true, laidLooks := .later }
def ClockSpansCardSaid : Prop := Claim7.holds Tryd.pinned (.plain (OpenSpec.ofChange clockSpansSpec)) clockSpansCard

/-- THE TIED CARD OF 'timeballlaw.ClockStamps'. -/
def clockStampsCard : Claim7 := { stood := { row := clockStampsRow, standIns := [], harness := (true, "2c13cc3c0be856691f46dd526740abe7bf97395facf5606fab4c993c118b1122"), looks := true }, kinds := [], alts := [], laidByText := true, laidKinds := [.data, .data, .data, .data, .sentinel, .sentinel, .pinned], laidTests := true, laidLooks := .later }
def ClockStampsCardSaid : Prop := Claim7.holds Tryd.pinned (.plain (OpenSpec.ofChange clockStampsSpec)) clockStampsCard

/-- THE TIED CARD OF 'timeballlaw.RiteStates'. -/
def riteStatesCard : Claim7 := { stood := { row := riteStatesRow, standIns := [], harness := (true, "2c13cc3c0be856691f46dd526740abe7bf97395facf5606fab4c993c118b1122"), looks := true }, kinds := [], alts := [], laidByText := true, laidKinds := [.data, .data, .data], laidTests := true, laidLooks := .later }
def RiteStatesCardSaid : Prop := Claim7.holds Tryd.pinned (.plain (OpenSpec.ofChange riteStatesSpec)) riteStatesCard

/-- THE SECOND FORM's CARD OF 'timeballlaw.RiteTells'. -/
def riteTellsUptoCard : Claim7 := { stood := { row := riteTellsUptoRow, standIns := [], harness := (true, "2c13cc3c0be856691f46dd526740abe7bf97395facf5606fab4c993c118b1122"), looks := true }, kinds := [], alts := [], laidByText := true, laidKinds := [.data, .data, .data], laidTests := true, laidLooks := .later }
def RiteTellsUptoCardSaid : Prop := Claim7.holds Tryd.pinned (.plain (OpenSpec.upto riteTellsSpec)) riteTellsUptoCard

/-- THE SECOND FORM's CARD OF 'timeballlaw.ClockSpans'. -/
def clockSpansUptoCard : Claim7 := { stood := { row := clockSpansUptoRow, standIns := [], harness := (true, "2c13cc3c0be856691f46dd526740abe7bf97395facf5606fab4c993c118b1122"), looks := true }, kinds := [], alts := [], laidByText := true, laidKinds := [.data, .data, .data, .data, .sentinel, .sentinel, .pinned], laidTests := true, laidLooks := .later }
def ClockSpansUptoCardSaid : Prop := Claim7.holds Tryd.pinned (.plain (OpenSpec.upto clockSpansSpec)) clockSpansUptoCard

/-- THE SECOND FORM's CARD OF 'timeballlaw.ClockStamps'. -/
def clockStampsUptoCard : Claim7 := { stood := { row := clockStampsUptoRow, standIns := [], harness := (true, "2c13cc3c0be856691f46dd526740abe7bf97395facf5606fab4c993c118b1122"), looks := true }, kinds := [], alts := [], laidByText := true, laidKinds := [.data, .data, .data, .data, .sentinel, .sentinel, .pinned], laidTests := true, laidLooks := .later }
def ClockStampsUptoCardSaid : Prop := Claim7.holds Tryd.pinned (.plain (OpenSpec.upto clockStampsSpec)) clockStampsUptoCard

/-- THE SECOND FORM's CARD OF 'timeballlaw.RiteStates'. -/
def riteStatesUptoCard : Claim7 := { stood := { row := riteStatesUptoRow, standIns := [], harness := (true, "2c13cc3c0be856691f46dd526740abe7bf97395facf5606fab4c993c118b1122"), looks := true }, kinds := [], alts := [], laidByText := true, laidKinds := [.data, .data, .data], laidTests := true, laidLooks := .later }
def RiteStatesUptoCardSaid : Prop := Claim7.holds Tryd.pinned (.plain (OpenSpec.upto riteStatesSpec)) riteStatesUptoCard
end Rows
end Go.Proofs.YtelgehpfjpbboaaDoor
