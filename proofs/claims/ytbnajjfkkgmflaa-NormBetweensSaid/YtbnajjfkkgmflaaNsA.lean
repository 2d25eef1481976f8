/- Walks of slices.Equal at types and at changes, and of the checks of two tables. -/
import Derived.Test.YtbnajjfkkgmflaaNmA
import Derived.Test.YtbnajjfkkgmflaaTabA
import Derived.Test.YtbnajjfkkgmflaaTabR
import Derived.BigQuiet
namespace Go.Proofs.Ytbnajjfkkgmflaa
open Go.RowKit
set_option linter.unusedVariables false
attribute [local go_sem ↓] Go.wp_at_zero Go.wp_at_succ
theorem ret_b {b c : Bool} (h : b = c) : Ending.returned (.bool b) = Ending.returned (.bool c) := by rw [h]
set_option maxRecDepth 100000 in
set_option maxHeartbeats 1000000 in
theorem run_eq_ch (x y : Ch) (w : World) : (Op.equalIn 10000 42 (.agg #[.int .i64 x.1, .int .i64 x.2]) (.agg #[.int .i64 y.1, .int .i64 y.2])).run Try.prog w = .ok (decide (x = y)) w := by
  by_cases h : x = y
  · subst h
    go_simp
  · rw [decide_eq_false h]
    by_cases h1 : x.1 = y.1
    · have h2 : ¬ x.2 = y.2 := fun e => h (Prod.ext h1 e)
      have e1 : (x.1 == y.1) = true := by simpa using h1
      have e2 : (x.2 == y.2) = false := by simpa using h2
      go_simp
    · have e1 : (x.1 == y.1) = false := by simpa using h1
      go_simp
theorem list_eq_at {α : Type} {xs ys : List α} (h : xs.length = ys.length) (h2 : ∀ j (h1 : j < xs.length) (h3 : j < ys.length), xs[j] = ys[j]) : xs = ys := List.ext_getElem h (fun j a b => h2 j a b)
end Go.Proofs.Ytbnajjfkkgmflaa
