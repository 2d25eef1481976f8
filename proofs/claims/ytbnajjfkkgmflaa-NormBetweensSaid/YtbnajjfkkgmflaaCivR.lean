/- Walks of the reference's calendar: Length, yearDay, Days, Date, Weekday and what they call. -/
import Derived.Test.YtbnajjfkkgmflaaBase
import Derived.Test.YtbnajjfkkgmflaaPln
namespace Go.Proofs.Ytbnajjfkkgmflaa
open Go.RowKit
set_option linter.unusedVariables false

set_option maxHeartbeats 400000 in
theorem r_outside (n a b : Int) (w : World) :
    Calls Try.prog 25 #[.int .i64 n, .int .i64 a, .int .i64 b] w fun e w' => e = .returned (.bool (decide (n < a ∨ b < n))) ∧ w = w' := by
  by_cases h1 : n < a
  · go_enter Try.func25, Try.ntmps25
    go_wp2
    go_ret
    exact ⟨ret_bool (by simp [h1]), rfl⟩
  · go_enter Try.func25, Try.ntmps25
    go_wp2
    go_ret
    exact ⟨ret_bool (by simp; omega), rfl⟩

theorem months (f : Int) (y m : Int) (h1 : 1 ≤ m) (h2 : m ≤ 12) (hf : f = 28 + longN y) :
    ([Value.int .i64 31, .int .i64 f, .int .i64 31, .int .i64 30, .int .i64 31, .int .i64 30, .int .i64 31, .int .i64 31, .int .i64 30, .int .i64 31, .int .i64 30, .int .i64 31] : List Value)[m.toNat - 1]? = some (.int .i64 (lenM y m)) := by
  have : m = 1 ∨ m = 2 ∨ m = 3 ∨ m = 4 ∨ m = 5 ∨ m = 6 ∨ m = 7 ∨ m = 8 ∨ m = 9 ∨ m = 10 ∨ m = 11 ∨ m = 12 := by omega
  rcases this with h | h | h | h | h | h | h | h | h | h | h | h <;> subst h <;> simp [lenM, hf]
theorem tmod_fact' (a b : Int) (h : 0 < b) : ∃ q, a = b * q + a.tmod b ∧ -b < a.tmod b ∧ a.tmod b < b ∧ (0 ≤ a → 0 ≤ a.tmod b) ∧ (a ≤ 0 → a.tmod b ≤ 0) := by
  refine ⟨a.tdiv b, (Int.mul_tdiv_add_tmod a b).symm, ?_, Int.tmod_lt_of_pos a h, fun h0 => Int.tmod_nonneg b h0, ?_⟩
  · have := Int.lt_tmod_of_pos a h; omega
  · intro h0
    have := Int.tmod_nonneg b (show 0 ≤ -a by omega)
    rw [Int.neg_tmod] at this; omega
theorem tdiv_fact (a b : Int) (h : 0 < b) : ∃ r, a = b * a.tdiv b + r ∧ -b < r ∧ r < b ∧ (0 ≤ a → 0 ≤ r) := by
  refine ⟨a.tmod b, (Int.mul_tdiv_add_tmod a b).symm, ?_, Int.tmod_lt_of_pos a h, fun h0 => Int.tmod_nonneg b h0⟩
  have := Int.lt_tmod_of_pos a h; omega

end Go.Proofs.Ytbnajjfkkgmflaa
