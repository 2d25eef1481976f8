/- Walk of table.Of. -/
import Derived.Test.YtanaoohgpdcfjaaGreatDoorOpn
import Derived.Test.YtanaoohgpdcfjaaGreatDoorTabQ
import Derived.Test.YtanaoohgpdcfjaaGreatDoorBase
import Derived.Test.YtanaoohgpdcfjaaGreatDoorShelf
import Derived.Deep.RegionHeld3
import Derived.Deep.DrawnRows
namespace Go.Proofs.YtanaoohgpdcfjaaGreatDoor
open Go.RowKit
set_option linter.unusedVariables false
attribute [local go_sem ↓] Go.wp_at_zero Go.wp_at_succ

end Go.Proofs.YtanaoohgpdcfjaaGreatDoor
