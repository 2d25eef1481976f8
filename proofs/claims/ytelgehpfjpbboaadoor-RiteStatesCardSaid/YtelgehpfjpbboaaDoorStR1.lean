/- Walk of the reference's Stamp. -/
import Derived.Test.YtelgehpfjpbboaaDoorStR
import Derived.Test.YtelgehpfjpbboaaDoorSpR
import Derived.Test.YtelgehpfjpbboaaDoorCivR
namespace Go.Proofs.YtelgehpfjpbboaaDoor
open Go.RowKit
set_option linter.unusedVariables false
theorem wrap_far (t r : Int) (h1 : -9223372036854775808 ≤ t) (h2 : t < -9223372036854000000) (hr : 0 ≤ r ∧ r < 86400) : (IntKind.i64.wrap (t - r) < -9000000000000000000 ∨ 9000000000000000000 < IntKind.i64.wrap (t - r)) ∧ -9223372036854775808 ≤ IntKind.i64.wrap (t - r) ∧ IntKind.i64.wrap (t - r) ≤ 9223372036854775807 := by
  by_cases h : -9223372036854775808 ≤ t - r
  · rw [IntWalk.i64_in _ (by omega)]; omega
  · rw [IntKind.wrap_i64]; omega
set_option maxRecDepth 100000 in
set_option maxHeartbeats 2000000 in
theorem r_Stamp_no (t : Int) (h1 : -9223372036854775808 ≤ t) (h2 : t ≤ 9223372036854775807) (h : dateOk (t / 86400) = false) (w : World) :
    Calls Tryd.prog 14 #[.int .i64 t] w fun e w' => e = .returned (.tuple #[.string ⟨#[]⟩, .int .i64 1]) ∧ Below w.heap.size w w' := by
  have hB : Below w.heap.size w w := Below.refl _ _
  have HR := Lib.hid (fun w => r_Rest2 t h1 h2 w)
  have hn := dateOk_no.1 h
  obtain ⟨r, hr, hr1, hr2⟩ : ∃ r, t % 86400 = r ∧ 0 ≤ r ∧ r < 86400 := ⟨_, rfl, by omega, by omega⟩
  by_cases hfar : t < -9223372036854000000
  · have hx := wrap_far t r h1 hfar ⟨hr1, hr2⟩
    obtain ⟨X, hX⟩ : ∃ X, IntKind.i64.wrap (t - r) = X := ⟨_, rfl⟩
    rw [hX] at hx
    obtain ⟨D, hD⟩ : ∃ D, X.tdiv 86400 = D := ⟨_, rfl⟩
    have hxx := Int.mul_tdiv_add_tmod X 86400
    obtain ⟨q0, t1, t2, t3, t4, t5⟩ := tmod_fact' X 86400 (by omega)
    rw [hD] at hxx
    have hdD : ¬ (-135140 ≤ D ∧ D ≤ 157053) := by omega
    have hd : dateOk D = false := dateOk_no.2 hdD
    obtain ⟨hDb1, hDb2⟩ : -200000000000000 ≤ D ∧ D ≤ 200000000000000 := by omega
    clear hdD
    have HD := Lib.hid (fun w => r_Date_no D hd w)
    clear hd hxx t1 t2 t3 t4 t5 hx h hn
    go_enter Tryd.func14, Tryd.ntmps14
    go_wp2_with fail
    refine (HR.out _).mono ?_
    rintro e w1 ⟨rfl, rfl⟩
    go_wp2_with fail
    refine (HD.out _).mono ?_
    rintro e w2 ⟨rfl, rfl⟩
    go_wp2_with fail
    go_ret2
    exact ⟨rfl, hB⟩
  · obtain ⟨X, hX⟩ : ∃ X, t - r = X := ⟨_, rfl⟩
    obtain ⟨D, hD⟩ : ∃ D, X.tdiv 86400 = D := ⟨_, rfl⟩
    have hD2 : D = t / 86400 := by
      have h0 : X = 86400 * (t / 86400) := by omega
      rw [← hD, h0, Int.mul_tdiv_cancel_left _ (by omega)]
    obtain ⟨hDb1, hDb2⟩ : -200000000000000 ≤ D ∧ D ≤ 200000000000000 := by rw [hD2]; omega
    have HD := Lib.hid (fun w => r_Date_no D (by rw [hD2]; exact h) w)
    clear h hn hD2
    go_enter Tryd.func14, Tryd.ntmps14
    go_wp2_with fail
    refine (HR.out _).mono ?_
    rintro e w1 ⟨rfl, rfl⟩
    go_wp2_with fail
    refine (HD.out _).mono ?_
    rintro e w2 ⟨rfl, rfl⟩
    go_wp2_with fail
    go_ret2
    exact ⟨rfl, hB⟩
end Go.Proofs.YtelgehpfjpbboaaDoor
