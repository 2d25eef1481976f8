/- Walk of table.Of. -/
import Derived.Test.YtgnodiegippkeaaDoorTabW
import Derived.Test.YtgnodiegippkeaaDoorTabQ
import Derived.Test.YtgnodiegippkeaaDoorBoxes
import Derived.Test.YtgnodiegippkeaaDoorShelf
import Derived.Deep.RegionHeld3
import Derived.Deep.DrawnRows
namespace Go.Proofs.YtgnodiegippkeaaDoor
open Go.RowKit
set_option linter.unusedVariables false
attribute [local go_sem ↓] Go.wp_at_zero Go.wp_at_succ

end Go.Proofs.YtgnodiegippkeaaDoor
