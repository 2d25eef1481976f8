/-
  DERIVED. GIVEN WITH THE SEED: THE CARDS: each row of YtbnajjfkkgmflaaDoorRows.lean that lists a variable, with what it lists TIED to the program's text (the seventh form; the later family's looks); each row that meets fmt, with fmt's text TOLD by the authors' own Lean function (tested against real Go, not proved from fmt's source: count such statements apart). THE CARD IS WHAT COUNTS. Prove the row's statement (the work); the ties are given (YtbnajjfkkgmflaaDoorTie.lean); close each card by the builder's one call (the guide's Derived/Test/ToyasCard.lean, 'card_holds'). Laid BY PROGRAM, IN A SANDBOX (cutbox-door.mjs). By AI agents, Wed Nov 11 2026. No macro, syntax, notation, axiom, sorry.
-/
import Derived.Test.YtbnajjfkkgmflaaDoorRows
import GoSem.ClaimSeven
namespace Go.Proofs.YtbnajjfkkgmflaaDoor
namespace Rows

/-- THE TIED CARD OF 'timeballlaw.ClockSpanReads'. -/
def clockSpanReadsCard : Claim7 := { stood := { row := clockSpanReadsRow, standIns := [], harness := (true, "8ca5312e24a39747db990c151cf2b0df66776ab8bd2fcf480049d4ee932ad331"), looks := true }, kinds := [], alts := [], laidByText := true, laidKinds := [.data, .data, .data, .data, .sentinel, .sentinel, .pinned], laidTests := true, laidLooks := .later }
def ClockSpanReadsCardSaid : Prop := Claim7.holds Tryd.pinned (.plain (OpenSpec.ofChange clockSpanReadsSpec)) clockSpanReadsCard

/-- THE TIED CARD OF 'timeballlaw.DayReads'. -/
def dayReadsCard : Claim7 := { stood := { row := dayReadsRow, standIns := [], harness := (true, "8ca5312e24a39747db990c151cf2b0df66776ab8bd2fcf480049d4ee932ad331"), looks := true }, kinds := [], alts := [], laidByText := true, laidKinds := [.data, .data, .data, .sentinel, .sentinel], laidTests := true, laidLooks := .later }
def DayReadsCardSaid : Prop := Claim7.holds Tryd.pinned (.plain (OpenSpec.ofChange dayReadsSpec)) dayReadsCard

/-- THE TIED CARD OF 'timeballlaw.ClockStampReads'. -/
def clockStampReadsCard : Claim7 := { stood := { row := clockStampReadsRow, standIns := [], harness := (true, "8ca5312e24a39747db990c151cf2b0df66776ab8bd2fcf480049d4ee932ad331"), looks := true }, kinds := [], alts := [], laidByText := true, laidKinds := [.data, .data, .data, .data, .sentinel, .sentinel, .pinned], laidTests := true, laidLooks := .later }
def ClockStampReadsCardSaid : Prop := Claim7.holds Tryd.pinned (.plain (OpenSpec.ofChange clockStampReadsSpec)) clockStampReadsCard

/-- THE SECOND FORM's CARD OF 'timeballlaw.ClockSpanReads'. -/
def clockSpanReadsUptoCard : Claim7 := { stood := { row := clockSpanReadsUptoRow, standIns := [], harness := (true, "8ca5312e24a39747db990c151cf2b0df66776ab8bd2fcf480049d4ee932ad331"), looks := true }, kinds := [], alts := [], laidByText := true, laidKinds := [.data, .data, .data, .data, .sentinel, .sentinel, .pinned], laidTests := true, laidLooks := .later }
def ClockSpanReadsUptoCardSaid : Prop := Claim7.holds Tryd.pinned (.plain (OpenSpec.upto clockSpanReadsSpec)) clockSpanReadsUptoCard

/-- THE SECOND FORM's CARD OF 'timeballlaw.DayReads'. -/
def dayReadsUptoCard : Claim7 := { stood := { row := dayReadsUptoRow, standIns := [], harness := (true, "8ca5312e24a39747db990c151cf2b0df66776ab8bd2fcf480049d4ee932ad331"), looks := true }, kinds := [], alts := [], laidByText := true, laidKinds := [.data, .data, .data, .sentinel, .sentinel], laidTests := true, laidLooks := .later }
def DayReadsUptoCardSaid : Prop := Claim7.holds Tryd.pinned (.plain (OpenSpec.upto dayReadsSpec)) dayReadsUptoCard

/-- THE SECOND FORM's CARD OF 'timeballlaw.ClockStampReads'. -/
def clockStampReadsUptoCard : Claim7 := { stood := { row := clockStampReadsUptoRow, standIns := [], harness := (true, "8ca5312e24a39747db990c151cf2b0df66776ab8bd2fcf480049d4ee932ad331"), looks := true }, kinds := [], alts := [], laidByText := true, laidKinds := [.data, .data, .data, .data, .sentinel, .sentinel, .pinned], laidTests := true, laidLooks := .later }
def ClockStampReadsUptoCardSaid : Prop := Claim7.holds Tryd.pinned (.plain (OpenSpec.upto clockStampReadsSpec)) clockStampReadsUptoCard
end Rows
end Go.Proofs.YtbnajjfkkgmflaaDoor
