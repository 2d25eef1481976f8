/- What the listed variables give a walk: the table of powers of ten, and that strconv's error is one. -/
import Derived.Test.YthkiohemolndeaaGreatDoorRows
import Derived.Test.YthkiohemolndeaaGreatDoorOpn
import Derived.LaidMore
import Derived.Stop.Joined
import Derived.Stop.LaidErr
import Derived.Lib.LaidTab
import Derived.Lib.ItoaNum
namespace Go.Proofs.YthkiohemolndeaaGreatDoor
open Go.RowKit
set_option linter.unusedVariables false
theorem tab_of_laid {W : World} {r : List (String × DataW Unit)} (h : laidMet Tryz.prog (("internal/strconv.uint64pow10", Rows.laid_internal_strconv_uint64pow10) :: r) W) : Lib.TabIs Tryz.prog W "internal/strconv.uint64pow10" .u64 Lib.pow10Tab :=
  Lib.tabIs_of_head (k := .u64) (zs := Lib.pow10Tab) (g := 1) (n := 20) (by kernel_rfl) (by kernel_rfl) Tryz.underlying186 Tryz.underlying142 (by kernel_rfl) (by kernel_rfl) h
end Go.Proofs.YthkiohemolndeaaGreatDoor
