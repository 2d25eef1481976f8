/-
  No cell of these rows narrows 'for every input' (looked for: loops, veiled, ifaces, maps, wideKeys, modest, calm, conditions, laid).
  DERIVED. THE GIVEN ROWS OF THIS SEAT. 9 by the template 'for every input the law returns true; each argument reads behind the call as it read before'; 0 by the template 'total and deterministic' (their statements: YtgnodiegippkeaaTotals.lean).
  GIVEN WITH THE SEED: the statements are not yours to turn. If you find one false, say at which input.
  Laid BY PROGRAM, IN A SANDBOX (cutbox-rows.mjs): the forced cells as the released guide's own fill.sh prints them over the translation 2f5985481fcdd743… (all of the seat's roots in one cut). By AI agents, Wed Nov 11 2026. No macro, syntax, notation, axiom, sorry.
-/
import Derived.Test.YtgnodiegippkeaaChecked
import GoSem.Claim
import GoSem.ClaimJoined
import GoSem.ClaimMapViews
import Derived.JoinedTies
import Derived.KernelRfl
namespace Go.Proofs.Ytgnodiegippkeaa
/- THE CELL 'sum', in the pinned program and in every row, IS THE sha256 OF THE DUMP (.gsa) THAT YtgnodiegippkeaaProg.lean LOADS. Nothing in Lean hashes anything: it is a label: what it is worth is what the hold of that sum in a sandbox is worth. -/
noncomputable def Try.pinned : Pinned := { name := "ytgnodiegippkeaa", sum := "2f5985481fcdd743f74e53d393c493f76e28565a8eaa0490898b37e12a757027", checked := Try.checked }
namespace Rows
def none {H : Type} : Left H := { results := [], args := [] }

/-- 'timeballlaw.WallFinds': WHATEVER THE INPUT: true; the input reads as it did. -/
def wallFindsSpec : ChangeSpec := { name := "wallFinds", fn := fun _ => fun
  | [d1, d2] => { results := [.lit (.bool true)], args := [d1, d2] }
  | _ => none }
def wallFindsRow : OpenClaim := { program := "ytgnodiegippkeaa", sum := "2f5985481fcdd743f74e53d393c493f76e28565a8eaa0490898b37e12a757027", func := "timeball/timeballlaw.WallFinds", spec := "wallFinds", inPlace := ["internal/bytealg.IndexByteString", "internal/bytealg.IndexString"], unfollowed := true, recurses := true, named := ["internal/bytealg.MaxLen"], apart := false }
def WallFindsSaid : Prop := wallFindsRow.holds Try.pinned (OpenSpec.ofChange wallFindsSpec)

/-- ITS FALSE NEIGHBOUR: 'it returns false'. Refute it at one input. -/
def wallFindsWrong : ChangeSpec := { name := "wallFinds", fn := fun _ => fun
  | [d1, d2] => { results := [.lit (.bool false)], args := [d1, d2] }
  | _ => none }
def WallFindsWrongFalsely : Prop := wallFindsRow.holds Try.pinned (OpenSpec.ofChange wallFindsWrong)

/-- 'timeballlaw.NormSames': WHATEVER THE INPUT: true; the input reads as it did. -/
def normSamesSpec : ChangeSpec := { name := "normSames", fn := fun _ => fun
  | [d1, d2] => { results := [.lit (.bool true)], args := [d1, d2] }
  | _ => none }
def normSamesRow : OpenClaim := { program := "ytgnodiegippkeaa", sum := "2f5985481fcdd743f74e53d393c493f76e28565a8eaa0490898b37e12a757027", func := "timeball/timeballlaw.NormSames", spec := "normSames", inPlace := ["internal/bytealg.IndexByteString", "internal/bytealg.IndexString"], named := ["internal/bytealg.MaxLen"], apart := false }
def NormSamesSaid : Prop := normSamesRow.holds Try.pinned (OpenSpec.ofChange normSamesSpec)

/-- ITS FALSE NEIGHBOUR: 'it returns false'. Refute it at one input. -/
def normSamesWrong : ChangeSpec := { name := "normSames", fn := fun _ => fun
  | [d1, d2] => { results := [.lit (.bool false)], args := [d1, d2] }
  | _ => none }
def NormSamesWrongFalsely : Prop := normSamesRow.holds Try.pinned (OpenSpec.ofChange normSamesWrong)

/-- 'timeballlaw.WallLongs': WHATEVER THE INPUT: true; the input reads as it did. -/
def wallLongsSpec : ChangeSpec := { name := "wallLongs", fn := fun _ => fun
  | [d1, d2] => { results := [.lit (.bool true)], args := [d1, d2] }
  | _ => none }
def wallLongsRow : OpenClaim := { program := "ytgnodiegippkeaa", sum := "2f5985481fcdd743f74e53d393c493f76e28565a8eaa0490898b37e12a757027", func := "timeball/timeballlaw.WallLongs", spec := "wallLongs", inPlace := ["internal/bytealg.IndexByteString", "internal/bytealg.IndexString"], unfollowed := true, recurses := true, named := ["internal/bytealg.MaxLen"], apart := false }
def WallLongsSaid : Prop := wallLongsRow.holds Try.pinned (OpenSpec.ofChange wallLongsSpec)

/-- ITS FALSE NEIGHBOUR: 'it returns false'. Refute it at one input. -/
def wallLongsWrong : ChangeSpec := { name := "wallLongs", fn := fun _ => fun
  | [d1, d2] => { results := [.lit (.bool false)], args := [d1, d2] }
  | _ => none }
def WallLongsWrongFalsely : Prop := wallLongsRow.holds Try.pinned (OpenSpec.ofChange wallLongsWrong)

/-- 'timeballlaw.WallNexts': WHATEVER THE INPUT: true; the input reads as it did. -/
def wallNextsSpec : ChangeSpec := { name := "wallNexts", fn := fun _ => fun
  | [d1, d2, d3] => { results := [.lit (.bool true)], args := [d1, d2, d3] }
  | _ => none }
def wallNextsRow : OpenClaim := { program := "ytgnodiegippkeaa", sum := "2f5985481fcdd743f74e53d393c493f76e28565a8eaa0490898b37e12a757027", func := "timeball/timeballlaw.WallNexts", spec := "wallNexts", inPlace := ["internal/bytealg.IndexByteString", "internal/bytealg.IndexString"], unfollowed := true, recurses := true, named := ["internal/bytealg.MaxLen"], apart := false }
def WallNextsSaid : Prop := wallNextsRow.holds Try.pinned (OpenSpec.ofChange wallNextsSpec)

/-- ITS FALSE NEIGHBOUR: 'it returns false'. Refute it at one input. -/
def wallNextsWrong : ChangeSpec := { name := "wallNexts", fn := fun _ => fun
  | [d1, d2, d3] => { results := [.lit (.bool false)], args := [d1, d2, d3] }
  | _ => none }
def WallNextsWrongFalsely : Prop := wallNextsRow.holds Try.pinned (OpenSpec.ofChange wallNextsWrong)

/-- 'timeballlaw.PackTells': WHATEVER THE INPUT: true; the input reads as it did. -/
def packTellsSpec : ChangeSpec := { name := "packTells", fn := fun _ => fun
  | [d] => { results := [.lit (.bool true)], args := [d] }
  | _ => none }
def packTellsRow : OpenClaim := { program := "ytgnodiegippkeaa", sum := "2f5985481fcdd743f74e53d393c493f76e28565a8eaa0490898b37e12a757027", func := "timeball/timeballlaw.PackTells", spec := "packTells", inPlace := ["internal/bytealg.IndexByteString", "internal/bytealg.IndexString"], recurses := true, named := ["internal/bytealg.MaxLen"], apart := false }
def PackTellsSaid : Prop := packTellsRow.holds Try.pinned (OpenSpec.ofChange packTellsSpec)

/-- ITS FALSE NEIGHBOUR: 'it returns false'. Refute it at one input. -/
def packTellsWrong : ChangeSpec := { name := "packTells", fn := fun _ => fun
  | [d] => { results := [.lit (.bool false)], args := [d] }
  | _ => none }
def PackTellsWrongFalsely : Prop := packTellsRow.holds Try.pinned (OpenSpec.ofChange packTellsWrong)

/-- 'timeballlaw.PackParses': WHATEVER THE INPUT: true; the input reads as it did. -/
def packParsesSpec : ChangeSpec := { name := "packParses", fn := fun _ => fun
  | [d] => { results := [.lit (.bool true)], args := [d] }
  | _ => none }
def packParsesRow : OpenClaim := { program := "ytgnodiegippkeaa", sum := "2f5985481fcdd743f74e53d393c493f76e28565a8eaa0490898b37e12a757027", func := "timeball/timeballlaw.PackParses", spec := "packParses", inPlace := ["internal/bytealg.IndexByteString", "internal/bytealg.IndexString"], recurses := true, named := ["internal/bytealg.MaxLen"], apart := false }
def PackParsesSaid : Prop := packParsesRow.holds Try.pinned (OpenSpec.ofChange packParsesSpec)

/-- ITS FALSE NEIGHBOUR: 'it returns false'. Refute it at one input. -/
def packParsesWrong : ChangeSpec := { name := "packParses", fn := fun _ => fun
  | [d] => { results := [.lit (.bool false)], args := [d] }
  | _ => none }
def PackParsesWrongFalsely : Prop := packParsesRow.holds Try.pinned (OpenSpec.ofChange packParsesWrong)

/-- 'timeballlaw.RiteChecks': WHATEVER THE INPUT: true; the input reads as it did. -/
def riteChecksSpec : ChangeSpec := { name := "riteChecks", fn := fun _ => fun
  | [d] => { results := [.lit (.bool true)], args := [d] }
  | _ => none }
def riteChecksRow : OpenClaim := { program := "ytgnodiegippkeaa", sum := "2f5985481fcdd743f74e53d393c493f76e28565a8eaa0490898b37e12a757027", func := "timeball/timeballlaw.RiteChecks", spec := "riteChecks", inPlace := ["internal/bytealg.IndexByteString", "internal/bytealg.IndexString"], named := ["internal/bytealg.MaxLen"], apart := false }
def RiteChecksSaid : Prop := riteChecksRow.holds Try.pinned (OpenSpec.ofChange riteChecksSpec)

/-- ITS FALSE NEIGHBOUR: 'it returns false'. Refute it at one input. -/
def riteChecksWrong : ChangeSpec := { name := "riteChecks", fn := fun _ => fun
  | [d] => { results := [.lit (.bool false)], args := [d] }
  | _ => none }
def RiteChecksWrongFalsely : Prop := riteChecksRow.holds Try.pinned (OpenSpec.ofChange riteChecksWrong)

/-- 'timeballlaw.RiteBooks': WHATEVER THE INPUT: true; the input reads as it did. -/
def riteBooksSpec : ChangeSpec := { name := "riteBooks", fn := fun _ => fun
  | [d1, d2, d3, d4] => { results := [.lit (.bool true)], args := [d1, d2, d3, d4] }
  | _ => none }
def riteBooksRow : OpenClaim := { program := "ytgnodiegippkeaa", sum := "2f5985481fcdd743f74e53d393c493f76e28565a8eaa0490898b37e12a757027", func := "timeball/timeballlaw.RiteBooks", spec := "riteBooks", inPlace := ["internal/bytealg.IndexByteString", "internal/bytealg.IndexString"], unfollowed := true, recurses := true, named := ["internal/bytealg.MaxLen"], apart := false }
def RiteBooksSaid : Prop := riteBooksRow.holds Try.pinned (OpenSpec.ofChange riteBooksSpec)

/-- ITS FALSE NEIGHBOUR: 'it returns false'. Refute it at one input. -/
def riteBooksWrong : ChangeSpec := { name := "riteBooks", fn := fun _ => fun
  | [d1, d2, d3, d4] => { results := [.lit (.bool false)], args := [d1, d2, d3, d4] }
  | _ => none }
def RiteBooksWrongFalsely : Prop := riteBooksRow.holds Try.pinned (OpenSpec.ofChange riteBooksWrong)

/-- 'timeballlaw.RiteTurns': WHATEVER THE INPUT: true; the input reads as it did. -/
def riteTurnsSpec : ChangeSpec := { name := "riteTurns", fn := fun _ => fun
  | [d1, d2] => { results := [.lit (.bool true)], args := [d1, d2] }
  | _ => none }
def riteTurnsRow : OpenClaim := { program := "ytgnodiegippkeaa", sum := "2f5985481fcdd743f74e53d393c493f76e28565a8eaa0490898b37e12a757027", func := "timeball/timeballlaw.RiteTurns", spec := "riteTurns", inPlace := ["internal/bytealg.IndexByteString", "internal/bytealg.IndexString"], named := ["internal/bytealg.MaxLen"], apart := false }
def RiteTurnsSaid : Prop := riteTurnsRow.holds Try.pinned (OpenSpec.ofChange riteTurnsSpec)

/-- ITS FALSE NEIGHBOUR: 'it returns false'. Refute it at one input. -/
def riteTurnsWrong : ChangeSpec := { name := "riteTurns", fn := fun _ => fun
  | [d1, d2] => { results := [.lit (.bool false)], args := [d1, d2] }
  | _ => none }
def RiteTurnsWrongFalsely : Prop := riteTurnsRow.holds Try.pinned (OpenSpec.ofChange riteTurnsWrong)

/- THE SECOND FORM. 'bulk': how many values and letters a reading holds, each counted each time it is reached (what is shared counts as often as it is met; a slice's spare places count too). A statement '..UptoSaid' is the law's where the arguments, and the package variables that the reading takes, are together of bulk at most 1048576: NARROWER than '..Said'. Prove '..Said' where nothing that the law and all that it calls make is longer than what came in: it says more and counts as full. Else prove '..UptoSaid'. A law counts once. -/
mutual
def uptoBulk {H : Type} : DataW H → Nat
  | .lit (.string bytes) => bytes.length + 1
  | .lit _ => 1
  | .nil => 1
  | .ptr d => uptoBulk d + 1
  | .slice elems spare => uptoBulkAll elems + uptoBulkAll spare + 1
  | .agg parts => uptoBulkAll parts + 1
  | .iface _ d => uptoBulk d + 1
  | .map entries => uptoBulkEntries entries + 1
  | .held _ => 1
def uptoBulkAll {H : Type} : List (DataW H) → Nat
  | [] => 0
  | d :: r => uptoBulk d + uptoBulkAll r
def uptoBulkEntries {H : Type} : List (Lit × DataW H) → Nat
  | [] => 0
  | x :: r => uptoBulkEntry x + uptoBulkEntries r
def uptoBulkEntry {H : Type} : Lit × DataW H → Nat
  | (.string bytes, d) => bytes.length + uptoBulk d + 1
  | (_, d) => uptoBulk d + 1
 end
def uptoSmall : (H : Type) → List (DataW H) → Bool := fun _ ds => decide (uptoBulkAll ds ≤ 1048576)
def OpenSpec.upto (s : _root_.Go.ChangeSpec) : _root_.Go.OpenSpec := { _root_.Go.OpenSpec.ofChange s with cond := some uptoSmall }

/-- 'timeballlaw.WallFinds', WHERE WHAT IT READS IS OF BULK AT MOST 1048576: true; the input reads as it did. -/
def wallFindsUptoRow : OpenClaim := { program := "ytgnodiegippkeaa", sum := "2f5985481fcdd743f74e53d393c493f76e28565a8eaa0490898b37e12a757027", func := "timeball/timeballlaw.WallFinds", spec := "wallFinds", inPlace := ["internal/bytealg.IndexByteString", "internal/bytealg.IndexString"], unfollowed := true, recurses := true, named := ["internal/bytealg.MaxLen"], apart := false, narrowed := true }
def WallFindsUptoSaid : Prop := wallFindsUptoRow.holds Try.pinned (OpenSpec.upto wallFindsSpec)

/-- 'timeballlaw.NormSames', WHERE WHAT IT READS IS OF BULK AT MOST 1048576: true; the input reads as it did. -/
def normSamesUptoRow : OpenClaim := { program := "ytgnodiegippkeaa", sum := "2f5985481fcdd743f74e53d393c493f76e28565a8eaa0490898b37e12a757027", func := "timeball/timeballlaw.NormSames", spec := "normSames", inPlace := ["internal/bytealg.IndexByteString", "internal/bytealg.IndexString"], named := ["internal/bytealg.MaxLen"], apart := false, narrowed := true }
def NormSamesUptoSaid : Prop := normSamesUptoRow.holds Try.pinned (OpenSpec.upto normSamesSpec)

/-- 'timeballlaw.WallLongs', WHERE WHAT IT READS IS OF BULK AT MOST 1048576: true; the input reads as it did. -/
def wallLongsUptoRow : OpenClaim := { program := "ytgnodiegippkeaa", sum := "2f5985481fcdd743f74e53d393c493f76e28565a8eaa0490898b37e12a757027", func := "timeball/timeballlaw.WallLongs", spec := "wallLongs", inPlace := ["internal/bytealg.IndexByteString", "internal/bytealg.IndexString"], unfollowed := true, recurses := true, named := ["internal/bytealg.MaxLen"], apart := false, narrowed := true }
def WallLongsUptoSaid : Prop := wallLongsUptoRow.holds Try.pinned (OpenSpec.upto wallLongsSpec)

/-- 'timeballlaw.WallNexts', WHERE WHAT IT READS IS OF BULK AT MOST 1048576: true; the input reads as it did. -/
def wallNextsUptoRow : OpenClaim := { program := "ytgnodiegippkeaa", sum := "2f5985481fcdd743f74e53d393c493f76e28565a8eaa0490898b37e12a757027", func := "timeball/timeballlaw.WallNexts", spec := "wallNexts", inPlace := ["internal/bytealg.IndexByteString", "internal/bytealg.IndexString"], unfollowed := true, recurses := true, named := ["internal/bytealg.MaxLen"], apart := false, narrowed := true }
def WallNextsUptoSaid : Prop := wallNextsUptoRow.holds Try.pinned (OpenSpec.upto wallNextsSpec)

/-- 'timeballlaw.PackTells', WHERE WHAT IT READS IS OF BULK AT MOST 1048576: true; the input reads as it did. -/
def packTellsUptoRow : OpenClaim := { program := "ytgnodiegippkeaa", sum := "2f5985481fcdd743f74e53d393c493f76e28565a8eaa0490898b37e12a757027", func := "timeball/timeballlaw.PackTells", spec := "packTells", inPlace := ["internal/bytealg.IndexByteString", "internal/bytealg.IndexString"], recurses := true, named := ["internal/bytealg.MaxLen"], apart := false, narrowed := true }
def PackTellsUptoSaid : Prop := packTellsUptoRow.holds Try.pinned (OpenSpec.upto packTellsSpec)

/-- 'timeballlaw.PackParses', WHERE WHAT IT READS IS OF BULK AT MOST 1048576: true; the input reads as it did. -/
def packParsesUptoRow : OpenClaim := { program := "ytgnodiegippkeaa", sum := "2f5985481fcdd743f74e53d393c493f76e28565a8eaa0490898b37e12a757027", func := "timeball/timeballlaw.PackParses", spec := "packParses", inPlace := ["internal/bytealg.IndexByteString", "internal/bytealg.IndexString"], recurses := true, named := ["internal/bytealg.MaxLen"], apart := false, narrowed := true }
def PackParsesUptoSaid : Prop := packParsesUptoRow.holds Try.pinned (OpenSpec.upto packParsesSpec)

/-- 'timeballlaw.RiteChecks', WHERE WHAT IT READS IS OF BULK AT MOST 1048576: true; the input reads as it did. -/
def riteChecksUptoRow : OpenClaim := { program := "ytgnodiegippkeaa", sum := "2f5985481fcdd743f74e53d393c493f76e28565a8eaa0490898b37e12a757027", func := "timeball/timeballlaw.RiteChecks", spec := "riteChecks", inPlace := ["internal/bytealg.IndexByteString", "internal/bytealg.IndexString"], named := ["internal/bytealg.MaxLen"], apart := false, narrowed := true }
def RiteChecksUptoSaid : Prop := riteChecksUptoRow.holds Try.pinned (OpenSpec.upto riteChecksSpec)

/-- 'timeballlaw.RiteBooks', WHERE WHAT IT READS IS OF BULK AT MOST 1048576: true; the input reads as it did. -/
def riteBooksUptoRow : OpenClaim := { program := "ytgnodiegippkeaa", sum := "2f5985481fcdd743f74e53d393c493f76e28565a8eaa0490898b37e12a757027", func := "timeball/timeballlaw.RiteBooks", spec := "riteBooks", inPlace := ["internal/bytealg.IndexByteString", "internal/bytealg.IndexString"], unfollowed := true, recurses := true, named := ["internal/bytealg.MaxLen"], apart := false, narrowed := true }
def RiteBooksUptoSaid : Prop := riteBooksUptoRow.holds Try.pinned (OpenSpec.upto riteBooksSpec)

/-- 'timeballlaw.RiteTurns', WHERE WHAT IT READS IS OF BULK AT MOST 1048576: true; the input reads as it did. -/
def riteTurnsUptoRow : OpenClaim := { program := "ytgnodiegippkeaa", sum := "2f5985481fcdd743f74e53d393c493f76e28565a8eaa0490898b37e12a757027", func := "timeball/timeballlaw.RiteTurns", spec := "riteTurns", inPlace := ["internal/bytealg.IndexByteString", "internal/bytealg.IndexString"], named := ["internal/bytealg.MaxLen"], apart := false, narrowed := true }
def RiteTurnsUptoSaid : Prop := riteTurnsUptoRow.holds Try.pinned (OpenSpec.upto riteTurnsSpec)

end Rows
end Go.Proofs.Ytgnodiegippkeaa
