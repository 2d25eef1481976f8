/- Walk of the reference's built. -/
import Derived.Test.YtbnajjfkkgmflaaNmG
import Derived.Deep.Cut
namespace Go.Proofs.Ytbnajjfkkgmflaa
open Go.RowKit
set_option linter.unusedVariables false
attribute [local go_sem ↓] Go.wp_at_zero Go.wp_at_succ
end Go.Proofs.Ytbnajjfkkgmflaa
