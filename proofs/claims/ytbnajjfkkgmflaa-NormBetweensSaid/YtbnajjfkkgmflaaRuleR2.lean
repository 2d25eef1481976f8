/- Walks of the reference's IsName and IsAbbr. -/
import Derived.Test.YtbnajjfkkgmflaaRuleR
namespace Go.Proofs.Ytbnajjfkkgmflaa
open Go.RowKit
set_option linter.unusedVariables false

set_option maxHeartbeats 1000000 in
theorem r_IsAbbr (s : ByteArray) (hs : s.size ≤ maxLen) (w : World) :
    Calls Try.prog 26 #[.string s] w fun e w' => e = .returned (.bool (isAbbrB s.data.toList)) ∧ Below w.heap.size w w' := by
  have hs' := hs
  unfold maxLen at hs'
  by_cases h : 1 ≤ s.size ∧ s.size ≤ 8
  · have HX := Lib.hid (show isAbbrB s.data.toList = lettersB [43, 45] s.data.toList by rw [isAbbrB, allB, size_len, decide_eq_true h, Bool.and_true])
    obtain ⟨h1, h2⟩ := h
    have ho : decide ((s.size : Int) < 1 ∨ 8 < (s.size : Int)) = false := by simp; omega
    go_enter Try.func26, Try.ntmps26
    go_wp2_with (first | (go_at_call 25; refine (r_outside _ _ _ _).mono ?_; rintro e w' ⟨rfl, rfl⟩) | (go_at_call 43; refine (r_letters s ⟨#[43, 45]⟩ hs (by unfold maxLen; decide) _).mono ?_; rintro e w1 ⟨rfl, hb⟩))
    go_ret
    exact ⟨ret_bool HX.out.symm, hb⟩
  · have HX := Lib.hid (show isAbbrB s.data.toList = false by rw [isAbbrB, allB, size_len, decide_eq_false h, Bool.and_false])
    have ho : decide ((s.size : Int) < 1 ∨ 8 < (s.size : Int)) = true := by simp; omega
    clear h
    go_enter Try.func26, Try.ntmps26
    go_wp2_with (first | (go_at_call 25; refine (r_outside _ _ _ _).mono ?_; rintro e w' ⟨rfl, rfl⟩))
    go_ret
    exact ⟨ret_bool HX.out.symm, (by repeat (first | exact Below.refl _ _ | assumption | apply Below.drew | apply below_drewN | (refine Below.alloc ?_ (by simp; try omega) _) | (refine Below.setCell ?_ (by simp; try omega) _)))⟩

end Go.Proofs.Ytbnajjfkkgmflaa
