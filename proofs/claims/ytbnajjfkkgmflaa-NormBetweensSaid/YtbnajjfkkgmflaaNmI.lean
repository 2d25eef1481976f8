/- Walk of the reference's Norm. -/
import Derived.Test.YtbnajjfkkgmflaaNmH
import Derived.Test.YtbnajjfkkgmflaaTabOfR
namespace Go.Proofs.Ytbnajjfkkgmflaa
open Go.RowKit
set_option linter.unusedVariables false
attribute [local go_sem ↓] Go.wp_at_zero Go.wp_at_succ
theorem info_int : (Try.prog.info? 3).map (fun i => (i.zero, i.size, i.bytes)) = some (some (.int .i64 0), 1, 8) := by kernel_rfl
end Go.Proofs.Ytbnajjfkkgmflaa
