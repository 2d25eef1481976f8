/-
  No cell of these rows narrows 'for every input' (looked for: loops, veiled, ifaces, maps, wideKeys, modest, calm, conditions, laid).
  DERIVED. THE GIVEN ROWS OF THIS SEAT. 12 by the template 'for every input the law returns true; each argument reads behind the call as it read before'; 0 by the template 'total and deterministic' (their statements: YtiiilpfapggihaaTotals.lean).
  GIVEN WITH THE SEED: the statements are not yours to turn. If you find one false, say at which input.
  Laid BY PROGRAM, IN A SANDBOX (cutbox-rows.mjs): the forced cells as the released guide's own fill.sh prints them over the translation 0bf91d7f30597d97… (all of the seat's roots in one cut). By AI agents, Wed Nov 11 2026. No macro, syntax, notation, axiom, sorry.
-/
import Derived.Test.YtiiilpfapggihaaChecked
import GoSem.Claim
import GoSem.ClaimJoined
import GoSem.ClaimMapViews
import Derived.JoinedTies
import Derived.KernelRfl
namespace Go.Proofs.Ytiiilpfapggihaa
/- THE CELL 'sum', in the pinned program and in every row, IS THE sha256 OF THE DUMP (.gsa) THAT YtiiilpfapggihaaProg.lean LOADS. Nothing in Lean hashes anything: it is a label: what it is worth is what the hold of that sum in a sandbox is worth. -/
noncomputable def Try.pinned : Pinned := { name := "ytiiilpfapggihaa", sum := "0bf91d7f30597d97e936cbd01ed3532a55a61eb8e090cb171312e0f46444c793", checked := Try.checked }
namespace Rows
def none {H : Type} : Left H := { results := [], args := [] }

/-- 'timeballlaw.Names': WHATEVER THE INPUT: true; the input reads as it did. -/
def namesSpec : ChangeSpec := { name := "names", fn := fun _ => fun
  | [] => { results := [.lit (.bool true)], args := [] }
  | _ => none }
def namesRow : OpenClaim := { program := "ytiiilpfapggihaa", sum := "0bf91d7f30597d97e936cbd01ed3532a55a61eb8e090cb171312e0f46444c793", func := "timeball/timeballlaw.Names", spec := "names", apart := false }
def NamesSaid : Prop := namesRow.holds Try.pinned (OpenSpec.ofChange namesSpec)

/-- ITS FALSE NEIGHBOUR: 'it returns false'. Refute it at one input. -/
def namesWrong : ChangeSpec := { name := "names", fn := fun _ => fun
  | [] => { results := [.lit (.bool false)], args := [] }
  | _ => none }
def NamesWrongFalsely : Prop := namesRow.holds Try.pinned (OpenSpec.ofChange namesWrong)

/-- 'timeballlaw.CivilLengths': WHATEVER THE INPUT: true; the input reads as it did. -/
def civilLengthsSpec : ChangeSpec := { name := "civilLengths", fn := fun _ => fun
  | [d1, d2] => { results := [.lit (.bool true)], args := [d1, d2] }
  | _ => none }
def civilLengthsRow : OpenClaim := { program := "ytiiilpfapggihaa", sum := "0bf91d7f30597d97e936cbd01ed3532a55a61eb8e090cb171312e0f46444c793", func := "timeball/timeballlaw.CivilLengths", spec := "civilLengths", apart := false }
def CivilLengthsSaid : Prop := civilLengthsRow.holds Try.pinned (OpenSpec.ofChange civilLengthsSpec)

/-- ITS FALSE NEIGHBOUR: 'it returns false'. Refute it at one input. -/
def civilLengthsWrong : ChangeSpec := { name := "civilLengths", fn := fun _ => fun
  | [d1, d2] => { results := [.lit (.bool false)], args := [d1, d2] }
  | _ => none }
def CivilLengthsWrongFalsely : Prop := civilLengthsRow.holds Try.pinned (OpenSpec.ofChange civilLengthsWrong)

/-- 'timeballlaw.CivilDays': WHATEVER THE INPUT: true; the input reads as it did. -/
def civilDaysSpec : ChangeSpec := { name := "civilDays", fn := fun _ => fun
  | [d1, d2, d3] => { results := [.lit (.bool true)], args := [d1, d2, d3] }
  | _ => none }
def civilDaysRow : OpenClaim := { program := "ytiiilpfapggihaa", sum := "0bf91d7f30597d97e936cbd01ed3532a55a61eb8e090cb171312e0f46444c793", func := "timeball/timeballlaw.CivilDays", spec := "civilDays", apart := false }
def CivilDaysSaid : Prop := civilDaysRow.holds Try.pinned (OpenSpec.ofChange civilDaysSpec)

/-- ITS FALSE NEIGHBOUR: 'it returns false'. Refute it at one input. -/
def civilDaysWrong : ChangeSpec := { name := "civilDays", fn := fun _ => fun
  | [d1, d2, d3] => { results := [.lit (.bool false)], args := [d1, d2, d3] }
  | _ => none }
def CivilDaysWrongFalsely : Prop := civilDaysRow.holds Try.pinned (OpenSpec.ofChange civilDaysWrong)

/-- 'timeballlaw.CivilDates': WHATEVER THE INPUT: true; the input reads as it did. -/
def civilDatesSpec : ChangeSpec := { name := "civilDates", fn := fun _ => fun
  | [d] => { results := [.lit (.bool true)], args := [d] }
  | _ => none }
def civilDatesRow : OpenClaim := { program := "ytiiilpfapggihaa", sum := "0bf91d7f30597d97e936cbd01ed3532a55a61eb8e090cb171312e0f46444c793", func := "timeball/timeballlaw.CivilDates", spec := "civilDates", apart := false }
def CivilDatesSaid : Prop := civilDatesRow.holds Try.pinned (OpenSpec.ofChange civilDatesSpec)

/-- ITS FALSE NEIGHBOUR: 'it returns false'. Refute it at one input. -/
def civilDatesWrong : ChangeSpec := { name := "civilDates", fn := fun _ => fun
  | [d] => { results := [.lit (.bool false)], args := [d] }
  | _ => none }
def CivilDatesWrongFalsely : Prop := civilDatesRow.holds Try.pinned (OpenSpec.ofChange civilDatesWrong)

/-- 'timeballlaw.CivilWeekdays': WHATEVER THE INPUT: true; the input reads as it did. -/
def civilWeekdaysSpec : ChangeSpec := { name := "civilWeekdays", fn := fun _ => fun
  | [d] => { results := [.lit (.bool true)], args := [d] }
  | _ => none }
def civilWeekdaysRow : OpenClaim := { program := "ytiiilpfapggihaa", sum := "0bf91d7f30597d97e936cbd01ed3532a55a61eb8e090cb171312e0f46444c793", func := "timeball/timeballlaw.CivilWeekdays", spec := "civilWeekdays", apart := false }
def CivilWeekdaysSaid : Prop := civilWeekdaysRow.holds Try.pinned (OpenSpec.ofChange civilWeekdaysSpec)

/-- ITS FALSE NEIGHBOUR: 'it returns false'. Refute it at one input. -/
def civilWeekdaysWrong : ChangeSpec := { name := "civilWeekdays", fn := fun _ => fun
  | [d] => { results := [.lit (.bool false)], args := [d] }
  | _ => none }
def CivilWeekdaysWrongFalsely : Prop := civilWeekdaysRow.holds Try.pinned (OpenSpec.ofChange civilWeekdaysWrong)

/-- 'timeballlaw.DayFinds': WHATEVER THE INPUT: true; the input reads as it did. -/
def dayFindsSpec : ChangeSpec := { name := "dayFinds", fn := fun _ => fun
  | [d1, d2, d3] => { results := [.lit (.bool true)], args := [d1, d2, d3] }
  | _ => none }
def dayFindsRow : OpenClaim := { program := "ytiiilpfapggihaa", sum := "0bf91d7f30597d97e936cbd01ed3532a55a61eb8e090cb171312e0f46444c793", func := "timeball/timeballlaw.DayFinds", spec := "dayFinds", apart := false }
def DayFindsSaid : Prop := dayFindsRow.holds Try.pinned (OpenSpec.ofChange dayFindsSpec)

/-- ITS FALSE NEIGHBOUR: 'it returns false'. Refute it at one input. -/
def dayFindsWrong : ChangeSpec := { name := "dayFinds", fn := fun _ => fun
  | [d1, d2, d3] => { results := [.lit (.bool false)], args := [d1, d2, d3] }
  | _ => none }
def DayFindsWrongFalsely : Prop := dayFindsRow.holds Try.pinned (OpenSpec.ofChange dayFindsWrong)

/-- 'timeballlaw.TableChecks': WHATEVER THE INPUT: true; the input reads as it did. -/
def tableChecksSpec : ChangeSpec := { name := "tableChecks", fn := fun _ => fun
  | [d] => { results := [.lit (.bool true)], args := [d] }
  | _ => none }
def tableChecksRow : OpenClaim := { program := "ytiiilpfapggihaa", sum := "0bf91d7f30597d97e936cbd01ed3532a55a61eb8e090cb171312e0f46444c793", func := "timeball/timeballlaw.TableChecks", spec := "tableChecks", inPlace := ["internal/bytealg.IndexByteString", "internal/bytealg.IndexString"], named := ["internal/bytealg.MaxLen"], apart := false }
def TableChecksSaid : Prop := tableChecksRow.holds Try.pinned (OpenSpec.ofChange tableChecksSpec)

/-- ITS FALSE NEIGHBOUR: 'it returns false'. Refute it at one input. -/
def tableChecksWrong : ChangeSpec := { name := "tableChecks", fn := fun _ => fun
  | [d] => { results := [.lit (.bool false)], args := [d] }
  | _ => none }
def TableChecksWrongFalsely : Prop := tableChecksRow.holds Try.pinned (OpenSpec.ofChange tableChecksWrong)

/-- 'timeballlaw.RuleChecks': WHATEVER THE INPUT: true; the input reads as it did. -/
def ruleChecksSpec : ChangeSpec := { name := "ruleChecks", fn := fun _ => fun
  | [d1, d2] => { results := [.lit (.bool true)], args := [d1, d2] }
  | _ => none }
def ruleChecksRow : OpenClaim := { program := "ytiiilpfapggihaa", sum := "0bf91d7f30597d97e936cbd01ed3532a55a61eb8e090cb171312e0f46444c793", func := "timeball/timeballlaw.RuleChecks", spec := "ruleChecks", inPlace := ["internal/bytealg.IndexByteString", "internal/bytealg.IndexString"], named := ["internal/bytealg.MaxLen"], apart := false }
def RuleChecksSaid : Prop := ruleChecksRow.holds Try.pinned (OpenSpec.ofChange ruleChecksSpec)

/-- ITS FALSE NEIGHBOUR: 'it returns false'. Refute it at one input. -/
def ruleChecksWrong : ChangeSpec := { name := "ruleChecks", fn := fun _ => fun
  | [d1, d2] => { results := [.lit (.bool false)], args := [d1, d2] }
  | _ => none }
def RuleChecksWrongFalsely : Prop := ruleChecksRow.holds Try.pinned (OpenSpec.ofChange ruleChecksWrong)

/-- 'timeballlaw.TableTells': WHATEVER THE INPUT: true; the input reads as it did. -/
def tableTellsSpec : ChangeSpec := { name := "tableTells", fn := fun _ => fun
  | [d1, d2] => { results := [.lit (.bool true)], args := [d1, d2] }
  | _ => none }
def tableTellsRow : OpenClaim := { program := "ytiiilpfapggihaa", sum := "0bf91d7f30597d97e936cbd01ed3532a55a61eb8e090cb171312e0f46444c793", func := "timeball/timeballlaw.TableTells", spec := "tableTells", inPlace := ["internal/bytealg.IndexByteString", "internal/bytealg.IndexString"], unfollowed := true, recurses := true, named := ["internal/bytealg.MaxLen"], apart := false }
def TableTellsSaid : Prop := tableTellsRow.holds Try.pinned (OpenSpec.ofChange tableTellsSpec)

/-- ITS FALSE NEIGHBOUR: 'it returns false'. Refute it at one input. -/
def tableTellsWrong : ChangeSpec := { name := "tableTells", fn := fun _ => fun
  | [d1, d2] => { results := [.lit (.bool false)], args := [d1, d2] }
  | _ => none }
def TableTellsWrongFalsely : Prop := tableTellsRow.holds Try.pinned (OpenSpec.ofChange tableTellsWrong)

/-- 'timeballlaw.WallLocals': WHATEVER THE INPUT: true; the input reads as it did. -/
def wallLocalsSpec : ChangeSpec := { name := "wallLocals", fn := fun _ => fun
  | [d1, d2] => { results := [.lit (.bool true)], args := [d1, d2] }
  | _ => none }
def wallLocalsRow : OpenClaim := { program := "ytiiilpfapggihaa", sum := "0bf91d7f30597d97e936cbd01ed3532a55a61eb8e090cb171312e0f46444c793", func := "timeball/timeballlaw.WallLocals", spec := "wallLocals", inPlace := ["internal/bytealg.IndexByteString", "internal/bytealg.IndexString"], unfollowed := true, recurses := true, named := ["internal/bytealg.MaxLen"], apart := false }
def WallLocalsSaid : Prop := wallLocalsRow.holds Try.pinned (OpenSpec.ofChange wallLocalsSpec)

/-- ITS FALSE NEIGHBOUR: 'it returns false'. Refute it at one input. -/
def wallLocalsWrong : ChangeSpec := { name := "wallLocals", fn := fun _ => fun
  | [d1, d2] => { results := [.lit (.bool false)], args := [d1, d2] }
  | _ => none }
def WallLocalsWrongFalsely : Prop := wallLocalsRow.holds Try.pinned (OpenSpec.ofChange wallLocalsWrong)

/-- 'timeballlaw.NormTells': WHATEVER THE INPUT: true; the input reads as it did. -/
def normTellsSpec : ChangeSpec := { name := "normTells", fn := fun _ => fun
  | [d] => { results := [.lit (.bool true)], args := [d] }
  | _ => none }
def normTellsRow : OpenClaim := { program := "ytiiilpfapggihaa", sum := "0bf91d7f30597d97e936cbd01ed3532a55a61eb8e090cb171312e0f46444c793", func := "timeball/timeballlaw.NormTells", spec := "normTells", inPlace := ["internal/bytealg.IndexByteString", "internal/bytealg.IndexString"], unfollowed := true, recurses := true, named := ["internal/bytealg.MaxLen"], apart := false }
def NormTellsSaid : Prop := normTellsRow.holds Try.pinned (OpenSpec.ofChange normTellsSpec)

/-- ITS FALSE NEIGHBOUR: 'it returns false'. Refute it at one input. -/
def normTellsWrong : ChangeSpec := { name := "normTells", fn := fun _ => fun
  | [d] => { results := [.lit (.bool false)], args := [d] }
  | _ => none }
def NormTellsWrongFalsely : Prop := normTellsRow.holds Try.pinned (OpenSpec.ofChange normTellsWrong)

/-- 'timeballlaw.BookAbbrs': WHATEVER THE INPUT: true; the input reads as it did. -/
def bookAbbrsSpec : ChangeSpec := { name := "bookAbbrs", fn := fun _ => fun
  | [d1, d2, d3] => { results := [.lit (.bool true)], args := [d1, d2, d3] }
  | _ => none }
def bookAbbrsRow : OpenClaim := { program := "ytiiilpfapggihaa", sum := "0bf91d7f30597d97e936cbd01ed3532a55a61eb8e090cb171312e0f46444c793", func := "timeball/timeballlaw.BookAbbrs", spec := "bookAbbrs", inPlace := ["internal/bytealg.IndexByteString", "internal/bytealg.IndexString", "internal/bytealg.CountString"], named := ["internal/bytealg.MaxLen"], apart := false }
def BookAbbrsSaid : Prop := bookAbbrsRow.holds Try.pinned (OpenSpec.ofChange bookAbbrsSpec)

/-- ITS FALSE NEIGHBOUR: 'it returns false'. Refute it at one input. -/
def bookAbbrsWrong : ChangeSpec := { name := "bookAbbrs", fn := fun _ => fun
  | [d1, d2, d3] => { results := [.lit (.bool false)], args := [d1, d2, d3] }
  | _ => none }
def BookAbbrsWrongFalsely : Prop := bookAbbrsRow.holds Try.pinned (OpenSpec.ofChange bookAbbrsWrong)

/- THE SECOND FORM. 'bulk': how many values and letters a reading holds, each counted each time it is reached (what is shared counts as often as it is met; a slice's spare places count too). A statement '..UptoSaid' is the law's where the arguments, and the package variables that the reading takes, are together of bulk at most 1048576: NARROWER than '..Said'. Prove '..Said' where nothing that the law and all that it calls make is longer than what came in: it says more and counts as full. Else prove '..UptoSaid'. A law counts once. -/
mutual
def uptoBulk {H : Type} : DataW H → Nat
  | .lit (.string bytes) => bytes.length + 1
  | .lit _ => 1
  | .nil => 1
  | .ptr d => uptoBulk d + 1
  | .slice elems spare => uptoBulkAll elems + uptoBulkAll spare + 1
  | .agg parts => uptoBulkAll parts + 1
  | .iface _ d => uptoBulk d + 1
  | .map entries => uptoBulkEntries entries + 1
  | .held _ => 1
def uptoBulkAll {H : Type} : List (DataW H) → Nat
  | [] => 0
  | d :: r => uptoBulk d + uptoBulkAll r
def uptoBulkEntries {H : Type} : List (Lit × DataW H) → Nat
  | [] => 0
  | x :: r => uptoBulkEntry x + uptoBulkEntries r
def uptoBulkEntry {H : Type} : Lit × DataW H → Nat
  | (.string bytes, d) => bytes.length + uptoBulk d + 1
  | (_, d) => uptoBulk d + 1
 end
def uptoSmall : (H : Type) → List (DataW H) → Bool := fun _ ds => decide (uptoBulkAll ds ≤ 1048576)
def OpenSpec.upto (s : _root_.Go.ChangeSpec) : _root_.Go.OpenSpec := { _root_.Go.OpenSpec.ofChange s with cond := some uptoSmall }

/-- 'timeballlaw.Names', WHERE WHAT IT READS IS OF BULK AT MOST 1048576: true; the input reads as it did. -/
def namesUptoRow : OpenClaim := { program := "ytiiilpfapggihaa", sum := "0bf91d7f30597d97e936cbd01ed3532a55a61eb8e090cb171312e0f46444c793", func := "timeball/timeballlaw.Names", spec := "names", apart := false, narrowed := true }
def NamesUptoSaid : Prop := namesUptoRow.holds Try.pinned (OpenSpec.upto namesSpec)

/-- 'timeballlaw.CivilLengths', WHERE WHAT IT READS IS OF BULK AT MOST 1048576: true; the input reads as it did. -/
def civilLengthsUptoRow : OpenClaim := { program := "ytiiilpfapggihaa", sum := "0bf91d7f30597d97e936cbd01ed3532a55a61eb8e090cb171312e0f46444c793", func := "timeball/timeballlaw.CivilLengths", spec := "civilLengths", apart := false, narrowed := true }
def CivilLengthsUptoSaid : Prop := civilLengthsUptoRow.holds Try.pinned (OpenSpec.upto civilLengthsSpec)

/-- 'timeballlaw.CivilDays', WHERE WHAT IT READS IS OF BULK AT MOST 1048576: true; the input reads as it did. -/
def civilDaysUptoRow : OpenClaim := { program := "ytiiilpfapggihaa", sum := "0bf91d7f30597d97e936cbd01ed3532a55a61eb8e090cb171312e0f46444c793", func := "timeball/timeballlaw.CivilDays", spec := "civilDays", apart := false, narrowed := true }
def CivilDaysUptoSaid : Prop := civilDaysUptoRow.holds Try.pinned (OpenSpec.upto civilDaysSpec)

/-- 'timeballlaw.CivilDates', WHERE WHAT IT READS IS OF BULK AT MOST 1048576: true; the input reads as it did. -/
def civilDatesUptoRow : OpenClaim := { program := "ytiiilpfapggihaa", sum := "0bf91d7f30597d97e936cbd01ed3532a55a61eb8e090cb171312e0f46444c793", func := "timeball/timeballlaw.CivilDates", spec := "civilDates", apart := false, narrowed := true }
def CivilDatesUptoSaid : Prop := civilDatesUptoRow.holds Try.pinned (OpenSpec.upto civilDatesSpec)

/-- 'timeballlaw.CivilWeekdays', WHERE WHAT IT READS IS OF BULK AT MOST 1048576: true; the input reads as it did. -/
def civilWeekdaysUptoRow : OpenClaim := { program := "ytiiilpfapggihaa", sum := "0bf91d7f30597d97e936cbd01ed3532a55a61eb8e090cb171312e0f46444c793", func := "timeball/timeballlaw.CivilWeekdays", spec := "civilWeekdays", apart := false, narrowed := true }
def CivilWeekdaysUptoSaid : Prop := civilWeekdaysUptoRow.holds Try.pinned (OpenSpec.upto civilWeekdaysSpec)

/-- 'timeballlaw.DayFinds', WHERE WHAT IT READS IS OF BULK AT MOST 1048576: true; the input reads as it did. -/
def dayFindsUptoRow : OpenClaim := { program := "ytiiilpfapggihaa", sum := "0bf91d7f30597d97e936cbd01ed3532a55a61eb8e090cb171312e0f46444c793", func := "timeball/timeballlaw.DayFinds", spec := "dayFinds", apart := false, narrowed := true }
def DayFindsUptoSaid : Prop := dayFindsUptoRow.holds Try.pinned (OpenSpec.upto dayFindsSpec)

/-- 'timeballlaw.TableChecks', WHERE WHAT IT READS IS OF BULK AT MOST 1048576: true; the input reads as it did. -/
def tableChecksUptoRow : OpenClaim := { program := "ytiiilpfapggihaa", sum := "0bf91d7f30597d97e936cbd01ed3532a55a61eb8e090cb171312e0f46444c793", func := "timeball/timeballlaw.TableChecks", spec := "tableChecks", inPlace := ["internal/bytealg.IndexByteString", "internal/bytealg.IndexString"], named := ["internal/bytealg.MaxLen"], apart := false, narrowed := true }
def TableChecksUptoSaid : Prop := tableChecksUptoRow.holds Try.pinned (OpenSpec.upto tableChecksSpec)

/-- 'timeballlaw.RuleChecks', WHERE WHAT IT READS IS OF BULK AT MOST 1048576: true; the input reads as it did. -/
def ruleChecksUptoRow : OpenClaim := { program := "ytiiilpfapggihaa", sum := "0bf91d7f30597d97e936cbd01ed3532a55a61eb8e090cb171312e0f46444c793", func := "timeball/timeballlaw.RuleChecks", spec := "ruleChecks", inPlace := ["internal/bytealg.IndexByteString", "internal/bytealg.IndexString"], named := ["internal/bytealg.MaxLen"], apart := false, narrowed := true }
def RuleChecksUptoSaid : Prop := ruleChecksUptoRow.holds Try.pinned (OpenSpec.upto ruleChecksSpec)

/-- 'timeballlaw.TableTells', WHERE WHAT IT READS IS OF BULK AT MOST 1048576: true; the input reads as it did. -/
def tableTellsUptoRow : OpenClaim := { program := "ytiiilpfapggihaa", sum := "0bf91d7f30597d97e936cbd01ed3532a55a61eb8e090cb171312e0f46444c793", func := "timeball/timeballlaw.TableTells", spec := "tableTells", inPlace := ["internal/bytealg.IndexByteString", "internal/bytealg.IndexString"], unfollowed := true, recurses := true, named := ["internal/bytealg.MaxLen"], apart := false, narrowed := true }
def TableTellsUptoSaid : Prop := tableTellsUptoRow.holds Try.pinned (OpenSpec.upto tableTellsSpec)

/-- 'timeballlaw.WallLocals', WHERE WHAT IT READS IS OF BULK AT MOST 1048576: true; the input reads as it did. -/
def wallLocalsUptoRow : OpenClaim := { program := "ytiiilpfapggihaa", sum := "0bf91d7f30597d97e936cbd01ed3532a55a61eb8e090cb171312e0f46444c793", func := "timeball/timeballlaw.WallLocals", spec := "wallLocals", inPlace := ["internal/bytealg.IndexByteString", "internal/bytealg.IndexString"], unfollowed := true, recurses := true, named := ["internal/bytealg.MaxLen"], apart := false, narrowed := true }
def WallLocalsUptoSaid : Prop := wallLocalsUptoRow.holds Try.pinned (OpenSpec.upto wallLocalsSpec)

/-- 'timeballlaw.NormTells', WHERE WHAT IT READS IS OF BULK AT MOST 1048576: true; the input reads as it did. -/
def normTellsUptoRow : OpenClaim := { program := "ytiiilpfapggihaa", sum := "0bf91d7f30597d97e936cbd01ed3532a55a61eb8e090cb171312e0f46444c793", func := "timeball/timeballlaw.NormTells", spec := "normTells", inPlace := ["internal/bytealg.IndexByteString", "internal/bytealg.IndexString"], unfollowed := true, recurses := true, named := ["internal/bytealg.MaxLen"], apart := false, narrowed := true }
def NormTellsUptoSaid : Prop := normTellsUptoRow.holds Try.pinned (OpenSpec.upto normTellsSpec)

/-- 'timeballlaw.BookAbbrs', WHERE WHAT IT READS IS OF BULK AT MOST 1048576: true; the input reads as it did. -/
def bookAbbrsUptoRow : OpenClaim := { program := "ytiiilpfapggihaa", sum := "0bf91d7f30597d97e936cbd01ed3532a55a61eb8e090cb171312e0f46444c793", func := "timeball/timeballlaw.BookAbbrs", spec := "bookAbbrs", inPlace := ["internal/bytealg.IndexByteString", "internal/bytealg.IndexString", "internal/bytealg.CountString"], named := ["internal/bytealg.MaxLen"], apart := false, narrowed := true }
def BookAbbrsUptoSaid : Prop := bookAbbrsUptoRow.holds Try.pinned (OpenSpec.upto bookAbbrsSpec)

end Rows
end Go.Proofs.Ytiiilpfapggihaa
