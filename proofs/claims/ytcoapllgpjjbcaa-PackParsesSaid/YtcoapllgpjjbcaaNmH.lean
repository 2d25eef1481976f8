/- Walk of the reference's built. -/
import Derived.Test.YtcoapllgpjjbcaaNmG
import Derived.Deep.Cut
namespace Go.Proofs.Ytcoapllgpjjbcaa
open Go.RowKit
set_option linter.unusedVariables false
attribute [local go_sem ↓] Go.wp_at_zero Go.wp_at_succ
end Go.Proofs.Ytcoapllgpjjbcaa
