/- Walks of day.Check and day.Of. -/
import Derived.Test.YtbnajjfkkgmflaaDoorBase
import Derived.Test.YtbnajjfkkgmflaaDoorPln
import Derived.Test.YtbnajjfkkgmflaaDoorCivA
namespace Go.Proofs.YtbnajjfkkgmflaaDoor
open Go.RowKit
set_option linter.unusedVariables false

set_option maxHeartbeats 400000 in
theorem d_within (n a b : Int) (w : World) :
    Calls Tryd.prog 23 #[.int .i64 n, .int .i64 a, .int .i64 b] w fun e w' => e = .returned (.bool (decide (a ≤ n ∧ n ≤ b))) ∧ w = w' := by
  by_cases h1 : a ≤ n
  all_goals
    go_enter Tryd.func23, Tryd.ntmps23
    go_wp2
    go_ret
    exact ⟨ret_bool (by simp; omega), rfl⟩

set_option maxHeartbeats 1000000 in
theorem d_Check (k wd n : Int) (w : World) :
    Calls Tryd.prog 10 #[.agg #[.int .i64 k, .int .i64 wd, .int .i64 n]] w fun e w' => e = .returned (.int .i64 (dcE k wd n)) ∧ Below w.heap.size w w' := by
  go_enter Tryd.func10, Tryd.ntmps10
  go_wp2_with fail
  go_quiet ((go_at_call 23; exact Calls.quiet_of_same ((d_within _ _ _ _).mono fun e w' h => ⟨h.1, h.2.symm⟩)))
  go_wp2
  all_goals
    go_ret
    refine ⟨ret_int ?_, (by repeat (first | exact Below.refl _ _ | assumption | apply Below.drew | apply below_drewN | (refine Below.alloc ?_ (by simp; try omega) _) | (refine Below.setCell ?_ (by simp; try omega) _)))⟩
    first
      | (refine (dcE_ok (dcOk_iff.2 ?_)).symm; first | (simp_all; done) | (simp_all; omega))
      | (refine (dcE_no (dcOk_no.2 ?_)).symm; first | (simp_all; done) | (simp_all; intros; omega))

end Go.Proofs.YtbnajjfkkgmflaaDoor
