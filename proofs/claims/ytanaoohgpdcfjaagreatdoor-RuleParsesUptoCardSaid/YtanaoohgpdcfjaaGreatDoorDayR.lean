/- Walks of the reference's DayCheck, IsTime and DayOf. -/
import Derived.Test.YtanaoohgpdcfjaaGreatDoorBase
import Derived.Test.YtanaoohgpdcfjaaGreatDoorPln
import Derived.Test.YtanaoohgpdcfjaaGreatDoorCivR
namespace Go.Proofs.YtanaoohgpdcfjaaGreatDoor
open Go.RowKit
set_option linter.unusedVariables false

set_option maxHeartbeats 2000000 in
theorem r_DayCheck (k wd n : Int) (w : World) :
    Calls Tryz.prog 91 #[.agg #[.int .i64 k, .int .i64 wd, .int .i64 n]] w fun e w' => e = .returned (.int .i64 (dcE k wd n)) ∧ Below w.heap.size w w' := by
  by_cases h : dcOk k wd n = true
  · have hx := dcOk_iff.1 h
    have h1 : decide (k < 1 ∨ 4 < k) = false := by simp; omega
    have h2 : decide (wd < 0 ∨ 6 < wd) = false := by simp; omega
    have h3 : (k == 1 && wd != 0) = false := by simp; omega
    have h4 : (k == 2 && n != 0) = false := by simp; omega
    by_cases h5 : k = 2
    · have hn : n = 0 := by omega
      subst h5; subst hn
      have H := Lib.hid h
      clear h hx h4
      go_enter Tryz.func91, Tryz.ntmps91
      go_wp2_with (first | (go_at_call 72; refine (r_outside _ _ _ _).mono ?_; rintro e w' ⟨rfl, rfl⟩))
      go_ret
      exact ⟨ret_int (dcE_ok H.out).symm, (by repeat (first | exact Below.refl _ _ | assumption | apply Below.drew | apply below_drewN | (refine Below.alloc ?_ (by simp; try omega) _) | (refine Below.setCell ?_ (by simp; try omega) _)))⟩
    · have h6 : decide (n < 1 ∨ 31 < n) = false := by simp; omega
      have H := Lib.hid h
      by_cases h7 : k = 1
      · have hw : wd = 0 := by omega
        subst h7; subst hw
        clear h hx h4
        go_enter Tryz.func91, Tryz.ntmps91
        go_wp2_with (first | (go_at_call 72; refine (r_outside _ _ _ _).mono ?_; rintro e w' ⟨rfl, rfl⟩))
        go_ret
        exact ⟨ret_int (dcE_ok H.out).symm, (by repeat (first | exact Below.refl _ _ | assumption | apply Below.drew | apply below_drewN | (refine Below.alloc ?_ (by simp; try omega) _) | (refine Below.setCell ?_ (by simp; try omega) _)))⟩
      · clear h hx h4 h3
        go_enter Tryz.func91, Tryz.ntmps91
        go_wp2_with (first | (go_at_call 72; refine (r_outside _ _ _ _).mono ?_; rintro e w' ⟨rfl, rfl⟩))
        go_ret
        exact ⟨ret_int (dcE_ok H.out).symm, (by repeat (first | exact Below.refl _ _ | assumption | apply Below.drew | apply below_drewN | (refine Below.alloc ?_ (by simp; try omega) _) | (refine Below.setCell ?_ (by simp; try omega) _)))⟩
  · have h := eq_false_of_ne_true h
    have hx := dcOk_no.1 h
    have H := Lib.hid h
    clear h
    by_cases h1 : k < 1 ∨ 4 < k
    · have e1 : decide (k < 1 ∨ 4 < k) = true := by simpa using h1
      clear h1 hx
      go_enter Tryz.func91, Tryz.ntmps91
      go_wp2_with (first | (go_at_call 72; refine (r_outside _ _ _ _).mono ?_; rintro e w' ⟨rfl, rfl⟩))
      go_ret
      exact ⟨ret_int (dcE_no H.out).symm, (by repeat (first | exact Below.refl _ _ | assumption | apply Below.drew | apply below_drewN | (refine Below.alloc ?_ (by simp; try omega) _) | (refine Below.setCell ?_ (by simp; try omega) _)))⟩
    · have e1 : decide (k < 1 ∨ 4 < k) = false := by simpa using h1
      by_cases h2 : wd < 0 ∨ 6 < wd
      · have e2 : decide (wd < 0 ∨ 6 < wd) = true := by simpa using h2
        clear h1 hx h2
        go_enter Tryz.func91, Tryz.ntmps91
        go_wp2_with (first | (go_at_call 72; refine (r_outside _ _ _ _).mono ?_; rintro e w' ⟨rfl, rfl⟩))
        go_ret
        exact ⟨ret_int (dcE_no H.out).symm, (by repeat (first | exact Below.refl _ _ | assumption | apply Below.drew | apply below_drewN | (refine Below.alloc ?_ (by simp; try omega) _) | (refine Below.setCell ?_ (by simp; try omega) _)))⟩
      · have e2 : decide (wd < 0 ∨ 6 < wd) = false := by simpa using h2
        by_cases h5 : k = 2
        · subst h5
          have hn : n ≠ 0 := by omega
          clear h1 hx h2
          go_enter Tryz.func91, Tryz.ntmps91
          go_wp2_with (first | (go_at_call 72; refine (r_outside _ _ _ _).mono ?_; rintro e w' ⟨rfl, rfl⟩))
          go_ret
          exact ⟨ret_int (dcE_no H.out).symm, (by repeat (first | exact Below.refl _ _ | assumption | apply Below.drew | apply below_drewN | (refine Below.alloc ?_ (by simp; try omega) _) | (refine Below.setCell ?_ (by simp; try omega) _)))⟩
        · by_cases h6 : n < 1 ∨ 31 < n
          · have e6 : decide (n < 1 ∨ 31 < n) = true := by simpa using h6
            by_cases h7 : k = 1
            · subst h7
              by_cases h8 : wd = 0
              · subst h8
                clear h1 hx h2 h6
                go_enter Tryz.func91, Tryz.ntmps91
                go_wp2_with (first | (go_at_call 72; refine (r_outside _ _ _ _).mono ?_; rintro e w' ⟨rfl, rfl⟩))
                go_ret
                exact ⟨ret_int (dcE_no H.out).symm, (by repeat (first | exact Below.refl _ _ | assumption | apply Below.drew | apply below_drewN | (refine Below.alloc ?_ (by simp; try omega) _) | (refine Below.setCell ?_ (by simp; try omega) _)))⟩
              · clear h1 hx h2 h6
                go_enter Tryz.func91, Tryz.ntmps91
                go_wp2_with (first | (go_at_call 72; refine (r_outside _ _ _ _).mono ?_; rintro e w' ⟨rfl, rfl⟩))
                go_ret
                exact ⟨ret_int (dcE_no H.out).symm, (by repeat (first | exact Below.refl _ _ | assumption | apply Below.drew | apply below_drewN | (refine Below.alloc ?_ (by simp; try omega) _) | (refine Below.setCell ?_ (by simp; try omega) _)))⟩
            · clear h1 hx h2 h6
              go_enter Tryz.func91, Tryz.ntmps91
              go_wp2_with (first | (go_at_call 72; refine (r_outside _ _ _ _).mono ?_; rintro e w' ⟨rfl, rfl⟩))
              go_ret
              exact ⟨ret_int (dcE_no H.out).symm, (by repeat (first | exact Below.refl _ _ | assumption | apply Below.drew | apply below_drewN | (refine Below.alloc ?_ (by simp; try omega) _) | (refine Below.setCell ?_ (by simp; try omega) _)))⟩
          · have h7 : k = 1 := by omega
            subst h7
            have h8 : wd ≠ 0 := by omega
            clear h1 hx h2 h6
            go_enter Tryz.func91, Tryz.ntmps91
            go_wp2_with (first | (go_at_call 72; refine (r_outside _ _ _ _).mono ?_; rintro e w' ⟨rfl, rfl⟩))
            go_ret
            exact ⟨ret_int (dcE_no H.out).symm, (by repeat (first | exact Below.refl _ _ | assumption | apply Below.drew | apply below_drewN | (refine Below.alloc ?_ (by simp; try omega) _) | (refine Below.setCell ?_ (by simp; try omega) _)))⟩

def isTimeB (t : Int) : Bool := decide (-11676096000 ≤ t ∧ t < 13569465600)
set_option maxHeartbeats 1000000 in
theorem r_IsTime (t : Int) (w : World) :
    Calls Tryz.prog 44 #[.int .i64 t] w fun e w' => e = .returned (.bool (isTimeB t)) ∧ w = w' := by
  have y1 : yd 1600 = -135140 := by decide
  have y2 : yd 2400 = 157054 := by decide
  by_cases h1 : -11676096000 ≤ t
  all_goals
    go_enter Tryz.func44, Tryz.ntmps44
    go_wp2_with (first | (go_at_call 109; refine (r_yearDay _ (by omega) (by omega) _).mono ?_; rintro e w' ⟨rfl, rfl⟩))
    go_ret
    exact ⟨ret_bool (by simp [isTimeB]; omega), rfl⟩
theorem isTime_day (n : Int) : isTimeB (86400 * n) = dateOk n := by
  rw [isTimeB, dateOk, decide_eq_decide]; omega
end Go.Proofs.YtanaoohgpdcfjaaGreatDoor
