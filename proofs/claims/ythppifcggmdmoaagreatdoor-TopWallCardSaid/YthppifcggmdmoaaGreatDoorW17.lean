/- Part 17 of the proof of TopWall: no condition; what its declarations say stands at each. -/
import Derived.Test.YthppifcggmdmoaaGreatDoorW02
import Derived.Test.YthppifcggmdmoaaGreatDoorW03
import Derived.Test.YthppifcggmdmoaaGreatDoorW16
namespace Go.Proofs.YthppifcggmdmoaaGreatDoor
open Go.RowKit
set_option linter.unusedVariables false

set_option maxHeartbeats 400000 in
theorem d_within (n a b : Int) (w : World) :
  Calls Tryz.prog 148 #[.int .i64 n, .int .i64 a, .int .i64 b] w fun e w' => e = .returned (.bool (decide (a ≤ n ∧ n ≤ b))) ∧ w = w' := by
 by_cases h1 : a ≤ n
 all_goals
  go_enter Tryz.func148, Tryz.ntmps148
  go_wp2
  go_ret
  exact ⟨ret_bool (by simp; omega), rfl⟩

set_option maxHeartbeats 1000000 in
theorem d_Check (k wd n : Int) (w : World) :
  Calls Tryz.prog 101 #[.agg #[.int .i64 k, .int .i64 wd, .int .i64 n]] w fun e w' => e = .returned (.int .i64 (dcE k wd n)) ∧ Below w.heap.size w w' := by
 go_enter Tryz.func101, Tryz.ntmps101
 go_wp2_with fail
 go_quiet ((go_at_call 148; exact Calls.quiet_of_same ((d_within _ _ _ _).mono fun e w' h => ⟨h.1, h.2.symm⟩)))
 go_wp2
 all_goals
  go_ret
  refine ⟨ret_int ?_, (by repeat (first | exact Below.refl _ _ | assumption | apply Below.drew | apply below_drewN | (refine Below.alloc ?_ (by simp; try omega) _) | (refine Below.setCell ?_ (by simp; try omega) _)))⟩
  first
   | (refine (dcE_ok (dcOk_iff.2 ?_)).symm; first | (simp_all; done) | (simp_all; omega))
   | (refine (dcE_no (dcOk_no.2 ?_)).symm; first | (simp_all; done) | (simp_all; intros; omega))

set_option maxHeartbeats 1000000 in
theorem d_Of_bad (y m k wd n : Int) (h : dcOk k wd n = false) (w : World) :
  Calls Tryz.prog 127 #[.int .i64 y, .int .i64 m, .agg #[.int .i64 k, .int .i64 wd, .int .i64 n]] w fun e w' => e = .returned (.tuple #[.int .i64 0, .int .i64 1]) ∧ Below w.heap.size w w' := by
 have hE := dcE_no h
 clear h
 go_enter Tryz.func127, Tryz.ntmps127
 go_wp2_with fail
 refine (d_Check _ _ _ _).mono ?_
 rintro e w1 ⟨rfl, hb⟩
 obtain ⟨c0, c1, c2, hz, hb'⟩ := box3 hb
 clear hb
 go_wp2_with fail
 go_ret2
 exact ⟨rfl, hb'⟩
set_option maxHeartbeats 1000000 in
theorem d_Of_len (y m k wd n : Int) (h : dcOk k wd n = true) (h2 : lenOk y m = false) (w : World) :
  Calls Tryz.prog 127 #[.int .i64 y, .int .i64 m, .agg #[.int .i64 k, .int .i64 wd, .int .i64 n]] w fun e w' => e = .returned (.tuple #[.int .i64 0, .int .i64 1]) ∧ Below w.heap.size w w' := by
 have hE := dcE_ok h
 have hL := lenE_no h2
 clear h h2
 go_enter Tryz.func127, Tryz.ntmps127
 go_wp2_with fail
 refine (d_Check _ _ _ _).mono ?_
 rintro e w1 ⟨rfl, hb⟩
 obtain ⟨c0, c1, c2, hz, hb'⟩ := box3 hb
 clear hb
 go_wp2_with (first | (go_at_call 102; refine (c_Length _ _ _).mono ?_; rintro e w' ⟨rfl, rfl⟩))
 go_ret2
 exact ⟨rfl, hb'⟩
set_option maxHeartbeats 1000000 in
theorem d_Of_none (y m k wd n : Int) (h : dcOk k wd n = true) (h2 : lenOk y m = true) (h3 : lenM y m < n) (w : World) :
  Calls Tryz.prog 127 #[.int .i64 y, .int .i64 m, .agg #[.int .i64 k, .int .i64 wd, .int .i64 n]] w fun e w' => e = .returned (.tuple #[.int .i64 0, .int .i64 6]) ∧ Below w.heap.size w w' := by
 have hE := dcE_ok h
 have hL := lenE_ok h2
 have hV := lenV_ok h2
 clear h h2
 go_enter Tryz.func127, Tryz.ntmps127
 go_wp2_with fail
 refine (d_Check _ _ _ _).mono ?_
 rintro e w1 ⟨rfl, hb⟩
 obtain ⟨c0, c1, c2, hz, hb'⟩ := box3 hb
 clear hb
 go_wp2_with (first | (go_at_call 102; refine (c_Length _ _ _).mono ?_; rintro e w' ⟨rfl, rfl⟩))
 go_ret2
 exact ⟨rfl, hb'⟩
set_option maxHeartbeats 2000000 in
theorem d_Of_one (y m k wd n : Int) (h : dcOk k wd n = true) (h2 : lenOk y m = true) (h3 : n ≤ lenM y m) (hk : k = 1) (w : World) :
  Calls Tryz.prog 127 #[.int .i64 y, .int .i64 m, .agg #[.int .i64 k, .int .i64 wd, .int .i64 n]] w fun e w' => e = .returned (.tuple #[.int .i64 (daysN y m 1 + n - 1), .int .i64 0]) ∧ Below w.heap.size w w' := by
 subst hk
 have hE := dcE_ok h
 have hL := lenE_ok h2
 have hV := lenV_ok h2
 obtain ⟨k1, k2, k3, k4⟩ := lenOk_iff.1 h2
 obtain ⟨b1, b2⟩ := lenM_bd y m
 have hd : dayOk y m 1 = true := dayOk_iff.2 ⟨k1, k2, k3, k4, by omega, by omega⟩
 have hdV := daysV_ok hd
 have hdE := daysE_ok hd
 obtain ⟨i1, i2⟩ := month_in h2
 have hn : 1 ≤ n ∧ n ≤ 31 := by have := dcOk_iff.1 h; omega
 obtain ⟨n1, n2⟩ := hn
 clear h h2 hd
 go_enter Tryz.func127, Tryz.ntmps127
 go_wp2_with fail
 refine (d_Check _ _ _ _).mono ?_
 rintro e w1 ⟨rfl, hb⟩
 obtain ⟨c0, c1, c2, hz, hb'⟩ := box3 hb
 clear hb
 go_wp2_with (first | (go_at_call 102; refine (c_Length _ _ _).mono ?_; rintro e w' ⟨rfl, rfl⟩) | (go_at_call 147; refine (c_Days _ _ _ _).mono ?_; rintro e w' ⟨rfl, rfl⟩))
 go_loop [13, 15, 16] (fun a _ _ => a = .int .i64 (daysN y m 1 + n - 1)) (fun _ _ _ => 0)
 case atStart => exact rfl
 case round =>
  obtain rfl := hrel
  go_wp2_with fail
  go_ret2
  exact ⟨rfl, hb'⟩
set_option maxHeartbeats 2000000 in
theorem d_Of_last (y m k wd n : Int) (h : dcOk k wd n = true) (h2 : lenOk y m = true) (h3 : n ≤ lenM y m) (hk : k = 2) (w : World) :
  Calls Tryz.prog 127 #[.int .i64 y, .int .i64 m, .agg #[.int .i64 k, .int .i64 wd, .int .i64 n]] w fun e w' => e = .returned (.tuple #[.int .i64 (dofV y m k wd n), .int .i64 (dofE y m k wd n)]) ∧ Below w.heap.size w w' := by
 subst hk
 have hE := dcE_ok h
 have hL := lenE_ok h2
 have hV := lenV_ok h2
 obtain ⟨k1, k2, k3, k4⟩ := lenOk_iff.1 h2
 obtain ⟨b1, b2⟩ := lenM_bd y m
 have hd : dayOk y m 1 = true := dayOk_iff.2 ⟨k1, k2, k3, k4, by omega, by omega⟩
 have hdV := daysV_ok hd
 have hdE := daysE_ok hd
 obtain ⟨i1, i2⟩ := month_in h2
 have hw : 0 ≤ wd ∧ wd ≤ 6 := by have := dcOk_iff.1 h; omega
 obtain ⟨w1', w2'⟩ := hw
 have hn : n = 0 := by have := dcOk_iff.1 h; omega
 subst hn
 have HA : Hid (dofAt y m 2 wd 0 = (daysN y m 1 + lenM y m - 1) - (((daysN y m 1 + lenM y m - 1) + 4 - wd) % 7)) := Lib.hid (by simp [dofAt, dofS])
 have H := Lib.hid h
 have H2 := Lib.hid h2
 clear h h2 hd
 go_enter Tryz.func127, Tryz.ntmps127
 go_wp2_with fail
 refine (d_Check _ _ _ _).mono ?_
 rintro e w1 ⟨rfl, hb⟩
 obtain ⟨c0, c1, c2, hz, hb'⟩ := box3 hb
 clear hb
 go_wp2_with (first | (go_at_call 102; refine (c_Length _ _ _).mono ?_; rintro e w' ⟨rfl, rfl⟩) | (go_at_call 147; refine (c_Days _ _ _ _).mono ?_; rintro e w' ⟨rfl, rfl⟩))
 obtain ⟨s, hs⟩ : ∃ s, daysN y m 1 + lenM y m - 1 = s := ⟨_, rfl⟩
 have HS := Lib.hid hs
 rw [hs] at HA
 have hs1 : -135140 ≤ s ∧ s ≤ 157053 := by omega
 obtain ⟨hs1, hs2⟩ := hs1
 clear hs
 go_loop [13, 15, 16] (fun a _ _ => ∃ j : Int, 0 ≤ j ∧ j ≤ (s + 4 - wd) % 7 ∧ a = .int .i64 (s - j)) (fun a _ _ => (intOf a + 200000).toNat)
 case atStart => exact ⟨0, by omega, by omega, congrArg _ (by have := HS.out; omega)⟩
 case round =>
  obtain ⟨j, hj1, hj2, rfl⟩ := hrel
  by_cases hin : dateOk (s - j) = true
  ·obtain ⟨d1, d2⟩ := dateOk_iff.1 hin
   have Hin := Lib.hid hin; clear hin
   by_cases hw : (s - j + 4) % 7 = wd
   ·have hj : j = (s + 4 - wd) % 7 := by omega
    have hy : dateOk (s - (s + 4 - wd) % 7) = true := by rw [← hj]; exact Hin.out
    have Hy := Lib.hid (dof_in H.out H2.out h3 (by rw [HA.out]; exact hy))
    have Hj := Lib.hid hj
    clear hy hj
    go_wp2_with (first | (go_at_call 159; refine (c_Weekday_yes _ Hin.out _).mono ?_; rintro e w' ⟨rfl, rfl⟩))
    go_ret2
    exact ⟨ret_ii (a := s - j) (c := 0) (by have e1 := Hy.out.1; have e2 := HA.out; have e3 := Hj.out; omega) (Hy.out.2).symm, hb'⟩
   ·have hj : j < (s + 4 - wd) % 7 := by omega
    go_wp2_with (first | (go_at_call 159; refine (c_Weekday_yes _ Hin.out _).mono ?_; rintro e w' ⟨rfl, rfl⟩))
    go_round
    case rel => exact ⟨j + 1, by omega, by omega, congrArg _ (by omega)⟩
    case measure => simp [intOf]; omega
  ·have hin := eq_false_of_ne_true hin
   have hout : dateOk (s - (s + 4 - wd) % 7) = false := by rw [dateOk_no]; have := dateOk_no.1 hin; omega
   have Hy := Lib.hid (dof_out H.out H2.out h3 (by rw [HA.out]; exact hout))
   have Hin := Lib.hid hin; clear hin hout
   go_wp2_with (first | (go_at_call 159; refine (c_Weekday_no _ Hin.out _).mono ?_; rintro e w' ⟨rfl, rfl⟩))
   go_ret2
   exact ⟨ret_ii (Hy.out.1).symm (Hy.out.2).symm, hb'⟩
set_option maxHeartbeats 2000000 in
theorem d_Of_till (y m k wd n : Int) (h : dcOk k wd n = true) (h2 : lenOk y m = true) (h3 : n ≤ lenM y m) (hk : k = 4) (w : World) :
  Calls Tryz.prog 127 #[.int .i64 y, .int .i64 m, .agg #[.int .i64 k, .int .i64 wd, .int .i64 n]] w fun e w' => e = .returned (.tuple #[.int .i64 (dofV y m k wd n), .int .i64 (dofE y m k wd n)]) ∧ Below w.heap.size w w' := by
 subst hk
 have hE := dcE_ok h
 have hL := lenE_ok h2
 have hV := lenV_ok h2
 obtain ⟨k1, k2, k3, k4⟩ := lenOk_iff.1 h2
 obtain ⟨b1, b2⟩ := lenM_bd y m
 have hd : dayOk y m 1 = true := dayOk_iff.2 ⟨k1, k2, k3, k4, by omega, by omega⟩
 have hdV := daysV_ok hd
 have hdE := daysE_ok hd
 obtain ⟨i1, i2⟩ := month_in h2
 have hw : 0 ≤ wd ∧ wd ≤ 6 := by have := dcOk_iff.1 h; omega
 obtain ⟨w1', w2'⟩ := hw
 have hn : 1 ≤ n ∧ n ≤ 31 := by have := dcOk_iff.1 h; omega
 obtain ⟨n1, n2⟩ := hn
 have HA : Hid (dofAt y m 4 wd n = (daysN y m 1 + n - 1) - (((daysN y m 1 + n - 1) + 4 - wd) % 7)) := Lib.hid (by simp [dofAt, dofS])
 have H := Lib.hid h
 have H2 := Lib.hid h2
 clear h h2 hd
 go_enter Tryz.func127, Tryz.ntmps127
 go_wp2_with fail
 refine (d_Check _ _ _ _).mono ?_
 rintro e w1 ⟨rfl, hb⟩
 obtain ⟨c0, c1, c2, hz, hb'⟩ := box3 hb
 clear hb
 go_wp2_with (first | (go_at_call 102; refine (c_Length _ _ _).mono ?_; rintro e w' ⟨rfl, rfl⟩) | (go_at_call 147; refine (c_Days _ _ _ _).mono ?_; rintro e w' ⟨rfl, rfl⟩))
 obtain ⟨s, hs⟩ : ∃ s, daysN y m 1 + n - 1 = s := ⟨_, rfl⟩
 have HS := Lib.hid hs
 rw [hs] at HA
 have hs1 : -135140 ≤ s ∧ s ≤ 157053 := by omega
 obtain ⟨hs1, hs2⟩ := hs1
 clear hs
 go_loop [13, 15, 16] (fun a _ _ => ∃ j : Int, 0 ≤ j ∧ j ≤ (s + 4 - wd) % 7 ∧ a = .int .i64 (s - j)) (fun a _ _ => (intOf a + 200000).toNat)
 case atStart => exact ⟨0, by omega, by omega, congrArg _ (by have := HS.out; omega)⟩
 case round =>
  obtain ⟨j, hj1, hj2, rfl⟩ := hrel
  by_cases hin : dateOk (s - j) = true
  ·obtain ⟨d1, d2⟩ := dateOk_iff.1 hin
   have Hin := Lib.hid hin; clear hin
   by_cases hw : (s - j + 4) % 7 = wd
   ·have hj : j = (s + 4 - wd) % 7 := by omega
    have hy : dateOk (s - (s + 4 - wd) % 7) = true := by rw [← hj]; exact Hin.out
    have Hy := Lib.hid (dof_in H.out H2.out h3 (by rw [HA.out]; exact hy))
    have Hj := Lib.hid hj
    clear hy hj
    go_wp2_with (first | (go_at_call 159; refine (c_Weekday_yes _ Hin.out _).mono ?_; rintro e w' ⟨rfl, rfl⟩))
    go_ret2
    exact ⟨ret_ii (a := s - j) (c := 0) (by have e1 := Hy.out.1; have e2 := HA.out; have e3 := Hj.out; omega) (Hy.out.2).symm, hb'⟩
   ·have hj : j < (s + 4 - wd) % 7 := by omega
    go_wp2_with (first | (go_at_call 159; refine (c_Weekday_yes _ Hin.out _).mono ?_; rintro e w' ⟨rfl, rfl⟩))
    go_round
    case rel => exact ⟨j + 1, by omega, by omega, congrArg _ (by omega)⟩
    case measure => simp [intOf]; omega
  ·have hin := eq_false_of_ne_true hin
   have hout : dateOk (s - (s + 4 - wd) % 7) = false := by rw [dateOk_no]; have := dateOk_no.1 hin; omega
   have Hy := Lib.hid (dof_out H.out H2.out h3 (by rw [HA.out]; exact hout))
   have Hin := Lib.hid hin; clear hin hout
   go_wp2_with (first | (go_at_call 159; refine (c_Weekday_no _ Hin.out _).mono ?_; rintro e w' ⟨rfl, rfl⟩))
   go_ret2
   exact ⟨ret_ii (Hy.out.1).symm (Hy.out.2).symm, hb'⟩
set_option maxHeartbeats 2000000 in
theorem d_Of_from (y m k wd n : Int) (h : dcOk k wd n = true) (h2 : lenOk y m = true) (h3 : n ≤ lenM y m) (hk : k = 3) (w : World) :
  Calls Tryz.prog 127 #[.int .i64 y, .int .i64 m, .agg #[.int .i64 k, .int .i64 wd, .int .i64 n]] w fun e w' => e = .returned (.tuple #[.int .i64 (dofV y m k wd n), .int .i64 (dofE y m k wd n)]) ∧ Below w.heap.size w w' := by
 subst hk
 have hE := dcE_ok h
 have hL := lenE_ok h2
 have hV := lenV_ok h2
 obtain ⟨k1, k2, k3, k4⟩ := lenOk_iff.1 h2
 obtain ⟨b1, b2⟩ := lenM_bd y m
 have hd : dayOk y m 1 = true := dayOk_iff.2 ⟨k1, k2, k3, k4, by omega, by omega⟩
 have hdV := daysV_ok hd
 have hdE := daysE_ok hd
 obtain ⟨i1, i2⟩ := month_in h2
 have hw : 0 ≤ wd ∧ wd ≤ 6 := by have := dcOk_iff.1 h; omega
 obtain ⟨w1', w2'⟩ := hw
 have hn : 1 ≤ n ∧ n ≤ 31 := by have := dcOk_iff.1 h; omega
 obtain ⟨n1, n2⟩ := hn
 have HA : Hid (dofAt y m 3 wd n = (daysN y m 1 + n - 1) + ((wd - (daysN y m 1 + n - 1) - 4) % 7)) := Lib.hid (by simp [dofAt, dofS])
 have H := Lib.hid h
 have H2 := Lib.hid h2
 clear h h2 hd
 go_enter Tryz.func127, Tryz.ntmps127
 go_wp2_with fail
 refine (d_Check _ _ _ _).mono ?_
 rintro e w1 ⟨rfl, hb⟩
 obtain ⟨c0, c1, c2, hz, hb'⟩ := box3 hb
 clear hb
 go_wp2_with (first | (go_at_call 102; refine (c_Length _ _ _).mono ?_; rintro e w' ⟨rfl, rfl⟩) | (go_at_call 147; refine (c_Days _ _ _ _).mono ?_; rintro e w' ⟨rfl, rfl⟩))
 obtain ⟨s, hs⟩ : ∃ s, daysN y m 1 + n - 1 = s := ⟨_, rfl⟩
 have HS := Lib.hid hs
 rw [hs] at HA
 have hs1 : -135140 ≤ s ∧ s ≤ 157053 := by omega
 obtain ⟨hs1, hs2⟩ := hs1
 clear hs
 go_loop [13, 15, 16] (fun a _ _ => ∃ j : Int, 0 ≤ j ∧ j ≤ (wd - s - 4) % 7 ∧ a = .int .i64 (s + j)) (fun a _ _ => (200000 - intOf a).toNat)
 case atStart => exact ⟨0, by omega, by omega, congrArg _ (by have := HS.out; omega)⟩
 case round =>
  obtain ⟨j, hj1, hj2, rfl⟩ := hrel
  by_cases hin : dateOk (s + j) = true
  ·obtain ⟨d1, d2⟩ := dateOk_iff.1 hin
   have Hin := Lib.hid hin; clear hin
   by_cases hw : (s + j + 4) % 7 = wd
   ·have hj : j = (wd - s - 4) % 7 := by omega
    have hy : dateOk (s + (wd - s - 4) % 7) = true := by rw [← hj]; exact Hin.out
    have Hy := Lib.hid (dof_in H.out H2.out h3 (by rw [HA.out]; exact hy))
    have Hj := Lib.hid hj
    clear hy hj
    go_wp2_with (first | (go_at_call 159; refine (c_Weekday_yes _ Hin.out _).mono ?_; rintro e w' ⟨rfl, rfl⟩))
    go_ret2
    exact ⟨ret_ii (a := s + j) (c := 0) (by have e1 := Hy.out.1; have e2 := HA.out; have e3 := Hj.out; omega) (Hy.out.2).symm, hb'⟩
   ·have hj : j < (wd - s - 4) % 7 := by omega
    go_wp2_with (first | (go_at_call 159; refine (c_Weekday_yes _ Hin.out _).mono ?_; rintro e w' ⟨rfl, rfl⟩))
    go_round
    case rel => exact ⟨j + 1, by omega, by omega, congrArg _ (by omega)⟩
    case measure => simp [intOf]; omega
  ·have hin := eq_false_of_ne_true hin
   have hout : dateOk (s + (wd - s - 4) % 7) = false := by rw [dateOk_no]; have := dateOk_no.1 hin; omega
   have Hy := Lib.hid (dof_out H.out H2.out h3 (by rw [HA.out]; exact hout))
   have Hin := Lib.hid hin; clear hin hout
   go_wp2_with (first | (go_at_call 159; refine (c_Weekday_no _ Hin.out _).mono ?_; rintro e w' ⟨rfl, rfl⟩))
   go_ret2
   exact ⟨ret_ii (Hy.out.1).symm (Hy.out.2).symm, hb'⟩

theorem d_Of (y m k wd n : Int) (w : World) :
  Calls Tryz.prog 127 #[.int .i64 y, .int .i64 m, .agg #[.int .i64 k, .int .i64 wd, .int .i64 n]] w fun e w' => e = .returned (.tuple #[.int .i64 (dofV y m k wd n), .int .i64 (dofE y m k wd n)]) ∧ Below w.heap.size w w' := by
 by_cases h : dcOk k wd n = true
 ·by_cases h2 : lenOk y m = true
  ·by_cases h3 : n ≤ lenM y m
   ·have hk : k = 1 ∨ k = 2 ∨ k = 3 ∨ k = 4 := by have := dcOk_iff.1 h; omega
    rcases hk with hk | hk | hk | hk
    ·have hn : 1 ≤ n := by have := dcOk_iff.1 h; omega
     have hi := month_in h2
     have e := dof_in h h2 h3 (by subst hk; rw [dateOk_iff]; simp [dofAt, dofS]; omega)
     rw [e.1, e.2]; subst hk
     exact d_Of_one y m 1 wd n h h2 h3 rfl w
    ·exact d_Of_last y m k wd n h h2 h3 hk w
    ·exact d_Of_from y m k wd n h h2 h3 hk w
    ·exact d_Of_till y m k wd n h h2 h3 hk w
   ·have e := dof_none h h2 (by omega); rw [e.1, e.2]; exact d_Of_none y m k wd n h h2 (by omega) w
  ·have h2 := eq_false_of_ne_true h2
   have e := dof_len h h2; rw [e.1, e.2]; exact d_Of_len y m k wd n h h2 w
 ·have h := eq_false_of_ne_true h
  have e := dof_bad (y := y) (m := m) h; rw [e.1, e.2]; exact d_Of_bad y m k wd n h w
end Go.Proofs.YthppifcggmdmoaaGreatDoor

