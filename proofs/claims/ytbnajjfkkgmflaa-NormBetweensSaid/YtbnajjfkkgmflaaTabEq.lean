/- Walks of the reference's TableEq at tables that hold the same. -/
import Derived.Test.YtbnajjfkkgmflaaOpn
import Derived.Test.YtbnajjfkkgmflaaBase
import Derived.Deep.RegionHeld3
import Derived.Deep.DrawnRows
namespace Go.Proofs.Ytbnajjfkkgmflaa
open Go.RowKit
set_option linter.unusedVariables false
attribute [local go_sem ↓] Go.wp_at_zero Go.wp_at_succ
end Go.Proofs.Ytbnajjfkkgmflaa
