/- Walks of the reference's DayOf. -/
import Derived.Test.YtanaoohgpdcfjaaGreatDoorDayR
namespace Go.Proofs.YtanaoohgpdcfjaaGreatDoor
open Go.RowKit
set_option linter.unusedVariables false
set_option maxHeartbeats 1000000 in
theorem r_DayOf_bad (y m k wd n : Int) (h : dcOk k wd n = false) (w : World) :
    Calls Tryz.prog 37 #[.int .i64 y, .int .i64 m, .agg #[.int .i64 k, .int .i64 wd, .int .i64 n]] w fun e w' => e = .returned (.tuple #[.int .i64 0, .int .i64 1]) ∧ Below w.heap.size w w' := by
  have hE := dcE_no h
  clear h
  go_enter Tryz.func37, Tryz.ntmps37
  go_wp2_with fail
  refine (r_DayCheck _ _ _ _).mono ?_
  rintro e w1 ⟨rfl, hb⟩
  obtain ⟨c0, c1, c2, hz, hb'⟩ := box3 hb
  clear hb
  go_wp2_with fail
  go_ret2
  exact ⟨rfl, hb'⟩
set_option maxHeartbeats 1000000 in
theorem r_DayOf_len (y m k wd n : Int) (h : dcOk k wd n = true) (h2 : lenOk y m = false) (w : World) :
    Calls Tryz.prog 37 #[.int .i64 y, .int .i64 m, .agg #[.int .i64 k, .int .i64 wd, .int .i64 n]] w fun e w' => e = .returned (.tuple #[.int .i64 0, .int .i64 1]) ∧ Below w.heap.size w w' := by
  have hE := dcE_ok h
  have hL := lenE_no h2
  clear h h2
  go_enter Tryz.func37, Tryz.ntmps37
  go_wp2_with fail
  refine (r_DayCheck _ _ _ _).mono ?_
  rintro e w1 ⟨rfl, hb⟩
  obtain ⟨c0, c1, c2, hz, hb'⟩ := box3 hb
  clear hb
  go_wp2_with fail
  refine (r_Length _ _ _).mono ?_
  rintro e w2 ⟨rfl, hb2⟩
  rw [← hb2.cell (p := ⟨w.heap.size, 0, none⟩) hz] at c0
  rw [← hb2.cell (p := ⟨w.heap.size, 1, none⟩) hz] at c1
  rw [← hb2.cell (p := ⟨w.heap.size, 2, none⟩) hz] at c2
  have hz2 := Nat.lt_of_lt_of_le hz hb2.size
  have hb3 := hb'.trans (hb2.mono (Nat.le_of_lt hz))
  clear hb2 hb' hz
  go_wp2_with fail
  go_ret2
  exact ⟨rfl, hb3⟩
set_option maxHeartbeats 1000000 in
theorem r_DayOf_none (y m k wd n : Int) (h : dcOk k wd n = true) (h2 : lenOk y m = true) (h3 : lenM y m < n) (w : World) :
    Calls Tryz.prog 37 #[.int .i64 y, .int .i64 m, .agg #[.int .i64 k, .int .i64 wd, .int .i64 n]] w fun e w' => e = .returned (.tuple #[.int .i64 0, .int .i64 6]) ∧ Below w.heap.size w w' := by
  have hE := dcE_ok h
  have hL := lenE_ok h2
  have hV := lenV_ok h2
  clear h h2
  go_enter Tryz.func37, Tryz.ntmps37
  go_wp2_with fail
  refine (r_DayCheck _ _ _ _).mono ?_
  rintro e w1 ⟨rfl, hb⟩
  obtain ⟨c0, c1, c2, hz, hb'⟩ := box3 hb
  clear hb
  go_wp2_with fail
  refine (r_Length _ _ _).mono ?_
  rintro e w2 ⟨rfl, hb2⟩
  rw [← hb2.cell (p := ⟨w.heap.size, 0, none⟩) hz] at c0
  rw [← hb2.cell (p := ⟨w.heap.size, 1, none⟩) hz] at c1
  rw [← hb2.cell (p := ⟨w.heap.size, 2, none⟩) hz] at c2
  have hz2 := Nat.lt_of_lt_of_le hz hb2.size
  have hb3 := hb'.trans (hb2.mono (Nat.le_of_lt hz))
  clear hb2 hb' hz
  go_wp2_with fail
  go_ret2
  exact ⟨rfl, hb3⟩
set_option maxHeartbeats 4000000 in
theorem r_DayOf_one (y m k wd n : Int) (h : dcOk k wd n = true) (h2 : lenOk y m = true) (h3 : n ≤ lenM y m) (hk : k = 1) (w : World) :
    Calls Tryz.prog 37 #[.int .i64 y, .int .i64 m, .agg #[.int .i64 k, .int .i64 wd, .int .i64 n]] w fun e w' => e = .returned (.tuple #[.int .i64 (dofV y m k wd n), .int .i64 (dofE y m k wd n)]) ∧ Below w.heap.size w w' := by
  subst hk
  have hE := dcE_ok h
  have hL := lenE_ok h2
  have hV := lenV_ok h2
  obtain ⟨k1, k2, k3, k4⟩ := lenOk_iff.1 h2
  obtain ⟨b1, b2⟩ := lenM_bd y m
  have hd : dayOk y m 1 = true := dayOk_iff.2 ⟨k1, k2, k3, k4, by omega, by omega⟩
  have hdV := daysV_ok hd
  have hdE := daysE_ok hd
  obtain ⟨i1, i2⟩ := month_in h2
  have hw : 0 ≤ wd ∧ wd ≤ 6 := by have := dcOk_iff.1 h; omega
  obtain ⟨w1', w2'⟩ := hw
  have hn : 1 ≤ n ∧ n ≤ 31 := by have := dcOk_iff.1 h; omega
  obtain ⟨n1, n2⟩ := hn
  have HA : Hid (∀ fr, daysN y m 1 + n - 1 = fr → dofAt y m 1 wd n = fr + 0) := Lib.hid (by intro fr hf; simp [dofAt, dofS]; omega)
  have H := Lib.hid h
  have H2 := Lib.hid h2
  clear h h2 hd
  go_enter Tryz.func37, Tryz.ntmps37
  go_wp2_with fail
  refine (r_DayCheck _ _ _ _).mono ?_
  rintro e w1 ⟨rfl, hb⟩
  obtain ⟨c0, c1, c2, hz, hb'⟩ := box3 hb
  clear hb
  go_wp2_with fail
  refine (r_Length _ _ _).mono ?_
  rintro e w2 ⟨rfl, hb2⟩
  rw [← hb2.cell (p := ⟨w.heap.size, 0, none⟩) hz] at c0
  rw [← hb2.cell (p := ⟨w.heap.size, 1, none⟩) hz] at c1
  rw [← hb2.cell (p := ⟨w.heap.size, 2, none⟩) hz] at c2
  have hz2 := Nat.lt_of_lt_of_le hz hb2.size
  have hb3 := hb'.trans (hb2.mono (Nat.le_of_lt hz))
  clear hb2 hb' hz
  go_wp2_with fail
  refine (r_Days _ _ _ _).mono ?_
  rintro e w3 ⟨rfl, hb4⟩
  rw [← hb4.cell (p := ⟨w.heap.size, 0, none⟩) hz2] at c0
  rw [← hb4.cell (p := ⟨w.heap.size, 1, none⟩) hz2] at c1
  rw [← hb4.cell (p := ⟨w.heap.size, 2, none⟩) hz2] at c2
  have hz3 := Nat.lt_of_lt_of_le hz2 hb4.size
  have hb5 := hb3.trans (hb4.mono (Nat.le_of_lt hz2))
  clear hb4 hb3 hz2
  go_wp2_with fail
  obtain ⟨fr, hfr⟩ : ∃ fr, daysN y m 1 + n - 1 = fr := ⟨_, rfl⟩
  have HS := Lib.hid hfr
  have HB := Lib.hid (HA.out fr hfr)
  clear HA
  have hs1 : -135147 ≤ fr ∧ fr ≤ 157060 := by omega
  obtain ⟨hs1, hs2⟩ := hs1
  clear hfr
  go_loopw [16] (fun v wr => ∃ j : Int, 0 ≤ j ∧ j ≤ 0 ∧ v = .int .i64 (fr + j) ∧ wr.cell? ⟨w.heap.size, 0, none⟩ = some (.int .i64 1) ∧ wr.cell? ⟨w.heap.size, 1, none⟩ = some (.int .i64 wd) ∧ Below w.heap.size w wr) (fun v _ => (200000 - intOf v).toNat)
  case atStart => exact ⟨0, by omega, by omega, congrArg _ (by have := HS.out; omega), c0, c1, hb5⟩
  case round =>
    clear c0 c1 c2 hz3 hb5
    obtain ⟨j, hj1, hj2, rfl, c0, c1, hbr⟩ := hrel
    have hle : fr + j ≤ daysN y m 1 + n - 1 := by have := HS.out; omega
    have Hj := Lib.hid (show j = 0 by omega)
    by_cases hin : dateOk (fr + j) = true
    · have hy : dateOk (fr + 0) = true := by rw [← Hj.out]; exact hin
      have Hy := Lib.hid (dof_in H.out H2.out h3 (by rw [HB.out]; exact hy))
      have ht : isTimeB (86400 * (fr + j)) = true := by rw [isTime_day]; exact hin
      clear hy hin
      go_wp2_with fail
      go_quiet (fail)
      go_wp2_with (first | (go_at_call 44; refine (r_IsTime _ _).mono ?_; rintro e w' ⟨rfl, rfl⟩))
      go_ret2
      exact ⟨ret_ii (a := fr + j) (c := 0) (by have e1 := Hy.out.1; have e2 := HB.out; have e3 := Hj.out; omega) (Hy.out.2).symm, below_drewN hbr _⟩
    · have hin := eq_false_of_ne_true hin
      have hy : dateOk (fr + 0) = false := by rw [← Hj.out]; exact hin
      have Hy := Lib.hid (dof_out H.out H2.out h3 (by rw [HB.out]; exact hy))
      have ht : isTimeB (86400 * (fr + j)) = false := by rw [isTime_day]; exact hin
      clear hy hin
      go_wp2_with fail
      go_quiet (fail)
      go_wp2_with (first | (go_at_call 44; refine (r_IsTime _ _).mono ?_; rintro e w' ⟨rfl, rfl⟩))
      go_ret2
      exact ⟨ret_ii (Hy.out.1).symm (Hy.out.2).symm, below_drewN hbr _⟩
set_option maxHeartbeats 4000000 in
theorem r_DayOf_last (y m k wd n : Int) (h : dcOk k wd n = true) (h2 : lenOk y m = true) (h3 : n ≤ lenM y m) (hk : k = 2) (w : World) :
    Calls Tryz.prog 37 #[.int .i64 y, .int .i64 m, .agg #[.int .i64 k, .int .i64 wd, .int .i64 n]] w fun e w' => e = .returned (.tuple #[.int .i64 (dofV y m k wd n), .int .i64 (dofE y m k wd n)]) ∧ Below w.heap.size w w' := by
  subst hk
  have hE := dcE_ok h
  have hL := lenE_ok h2
  have hV := lenV_ok h2
  obtain ⟨k1, k2, k3, k4⟩ := lenOk_iff.1 h2
  obtain ⟨b1, b2⟩ := lenM_bd y m
  have hd : dayOk y m 1 = true := dayOk_iff.2 ⟨k1, k2, k3, k4, by omega, by omega⟩
  have hdV := daysV_ok hd
  have hdE := daysE_ok hd
  obtain ⟨i1, i2⟩ := month_in h2
  have hw : 0 ≤ wd ∧ wd ≤ 6 := by have := dcOk_iff.1 h; omega
  obtain ⟨w1', w2'⟩ := hw
  have hn : n = 0 := by have := dcOk_iff.1 h; omega
  subst hn
  have HA : Hid (∀ fr, daysN y m 1 + lenM y m - 7 = fr → dofAt y m 2 wd 0 = fr + (wd - fr - 4) % 7) := Lib.hid (by intro fr hf; simp [dofAt, dofS]; omega)
  have H := Lib.hid h
  have H2 := Lib.hid h2
  clear h h2 hd
  go_enter Tryz.func37, Tryz.ntmps37
  go_wp2_with fail
  refine (r_DayCheck _ _ _ _).mono ?_
  rintro e w1 ⟨rfl, hb⟩
  obtain ⟨c0, c1, c2, hz, hb'⟩ := box3 hb
  clear hb
  go_wp2_with fail
  refine (r_Length _ _ _).mono ?_
  rintro e w2 ⟨rfl, hb2⟩
  rw [← hb2.cell (p := ⟨w.heap.size, 0, none⟩) hz] at c0
  rw [← hb2.cell (p := ⟨w.heap.size, 1, none⟩) hz] at c1
  rw [← hb2.cell (p := ⟨w.heap.size, 2, none⟩) hz] at c2
  have hz2 := Nat.lt_of_lt_of_le hz hb2.size
  have hb3 := hb'.trans (hb2.mono (Nat.le_of_lt hz))
  clear hb2 hb' hz
  go_wp2_with fail
  refine (r_Days _ _ _ _).mono ?_
  rintro e w3 ⟨rfl, hb4⟩
  rw [← hb4.cell (p := ⟨w.heap.size, 0, none⟩) hz2] at c0
  rw [← hb4.cell (p := ⟨w.heap.size, 1, none⟩) hz2] at c1
  rw [← hb4.cell (p := ⟨w.heap.size, 2, none⟩) hz2] at c2
  have hz3 := Nat.lt_of_lt_of_le hz2 hb4.size
  have hb5 := hb3.trans (hb4.mono (Nat.le_of_lt hz2))
  clear hb4 hb3 hz2
  go_wp2_with fail
  obtain ⟨fr, hfr⟩ : ∃ fr, daysN y m 1 + lenM y m - 7 = fr := ⟨_, rfl⟩
  have HS := Lib.hid hfr
  have HB := Lib.hid (HA.out fr hfr)
  clear HA
  have hs1 : -135147 ≤ fr ∧ fr ≤ 157060 := by omega
  obtain ⟨hs1, hs2⟩ := hs1
  clear hfr
  go_loopw [16] (fun v wr => ∃ j : Int, 0 ≤ j ∧ j ≤ (wd - fr - 4) % 7 ∧ v = .int .i64 (fr + j) ∧ wr.cell? ⟨w.heap.size, 0, none⟩ = some (.int .i64 2) ∧ wr.cell? ⟨w.heap.size, 1, none⟩ = some (.int .i64 wd) ∧ Below w.heap.size w wr) (fun v _ => (200000 - intOf v).toNat)
  case atStart => exact ⟨0, by omega, by omega, congrArg _ (by have := HS.out; omega), c0, c1, hb5⟩
  case round =>
    clear c0 c1 c2 hz3 hb5
    obtain ⟨j, hj1, hj2, rfl, c0, c1, hbr⟩ := hrel
    have hle : fr + j ≤ daysN y m 1 + lenM y m - 1 := by have := HS.out; omega
    by_cases hw : (fr + j + 4) % 7 = wd
    · have hj : j = (wd - fr - 4) % 7 := by omega
      have Hj := Lib.hid hj
      clear hj
      by_cases hin : dateOk (fr + j) = true
      · have hy : dateOk (fr + (wd - fr - 4) % 7) = true := by rw [← Hj.out]; exact hin
        have Hy := Lib.hid (dof_in H.out H2.out h3 (by rw [HB.out]; exact hy))
        have ht : isTimeB (86400 * (fr + j)) = true := by rw [isTime_day]; exact hin
        clear hy hin
        go_wp2_with fail
        go_quiet ((go_at_call 96; exact Calls.quiet_of_same ((r_Weekday _ (by omega) (by omega) _).mono fun e w' h => ⟨h.1, h.2.symm⟩)))
        go_wp2_with (first | (go_at_call 44; refine (r_IsTime _ _).mono ?_; rintro e w' ⟨rfl, rfl⟩))
        go_ret2
        exact ⟨ret_ii (a := fr + j) (c := 0) (by have e1 := Hy.out.1; have e2 := HB.out; have e3 := Hj.out; omega) (Hy.out.2).symm, below_drewN hbr _⟩
      · have hin := eq_false_of_ne_true hin
        have hy : dateOk (fr + (wd - fr - 4) % 7) = false := by rw [← Hj.out]; exact hin
        have Hy := Lib.hid (dof_out H.out H2.out h3 (by rw [HB.out]; exact hy))
        have ht : isTimeB (86400 * (fr + j)) = false := by rw [isTime_day]; exact hin
        clear hy hin
        go_wp2_with fail
        go_quiet ((go_at_call 96; exact Calls.quiet_of_same ((r_Weekday _ (by omega) (by omega) _).mono fun e w' h => ⟨h.1, h.2.symm⟩)))
        go_wp2_with (first | (go_at_call 44; refine (r_IsTime _ _).mono ?_; rintro e w' ⟨rfl, rfl⟩))
        go_ret2
        exact ⟨ret_ii (Hy.out.1).symm (Hy.out.2).symm, below_drewN hbr _⟩
    · have hj : j < (wd - fr - 4) % 7 := by omega
      go_wp2_with fail
      go_quiet ((go_at_call 96; exact Calls.quiet_of_same ((r_Weekday _ (by omega) (by omega) _).mono fun e w' h => ⟨h.1, h.2.symm⟩)))
      go_wp2_with fail
      go_roundw
      case rel => exact ⟨j + 1, by omega, by omega, congrArg _ (by omega), c0, c1, below_drewN hbr _⟩
      case measure => simp [intOf]; omega
set_option maxHeartbeats 4000000 in
theorem r_DayOf_from (y m k wd n : Int) (h : dcOk k wd n = true) (h2 : lenOk y m = true) (h3 : n ≤ lenM y m) (hk : k = 3) (w : World) :
    Calls Tryz.prog 37 #[.int .i64 y, .int .i64 m, .agg #[.int .i64 k, .int .i64 wd, .int .i64 n]] w fun e w' => e = .returned (.tuple #[.int .i64 (dofV y m k wd n), .int .i64 (dofE y m k wd n)]) ∧ Below w.heap.size w w' := by
  subst hk
  have hE := dcE_ok h
  have hL := lenE_ok h2
  have hV := lenV_ok h2
  obtain ⟨k1, k2, k3, k4⟩ := lenOk_iff.1 h2
  obtain ⟨b1, b2⟩ := lenM_bd y m
  have hd : dayOk y m 1 = true := dayOk_iff.2 ⟨k1, k2, k3, k4, by omega, by omega⟩
  have hdV := daysV_ok hd
  have hdE := daysE_ok hd
  obtain ⟨i1, i2⟩ := month_in h2
  have hw : 0 ≤ wd ∧ wd ≤ 6 := by have := dcOk_iff.1 h; omega
  obtain ⟨w1', w2'⟩ := hw
  have hn : 1 ≤ n ∧ n ≤ 31 := by have := dcOk_iff.1 h; omega
  obtain ⟨n1, n2⟩ := hn
  have HA : Hid (∀ fr, daysN y m 1 + n - 1 = fr → dofAt y m 3 wd n = fr + (wd - fr - 4) % 7) := Lib.hid (by intro fr hf; simp [dofAt, dofS]; omega)
  have H := Lib.hid h
  have H2 := Lib.hid h2
  clear h h2 hd
  go_enter Tryz.func37, Tryz.ntmps37
  go_wp2_with fail
  refine (r_DayCheck _ _ _ _).mono ?_
  rintro e w1 ⟨rfl, hb⟩
  obtain ⟨c0, c1, c2, hz, hb'⟩ := box3 hb
  clear hb
  go_wp2_with fail
  refine (r_Length _ _ _).mono ?_
  rintro e w2 ⟨rfl, hb2⟩
  rw [← hb2.cell (p := ⟨w.heap.size, 0, none⟩) hz] at c0
  rw [← hb2.cell (p := ⟨w.heap.size, 1, none⟩) hz] at c1
  rw [← hb2.cell (p := ⟨w.heap.size, 2, none⟩) hz] at c2
  have hz2 := Nat.lt_of_lt_of_le hz hb2.size
  have hb3 := hb'.trans (hb2.mono (Nat.le_of_lt hz))
  clear hb2 hb' hz
  go_wp2_with fail
  refine (r_Days _ _ _ _).mono ?_
  rintro e w3 ⟨rfl, hb4⟩
  rw [← hb4.cell (p := ⟨w.heap.size, 0, none⟩) hz2] at c0
  rw [← hb4.cell (p := ⟨w.heap.size, 1, none⟩) hz2] at c1
  rw [← hb4.cell (p := ⟨w.heap.size, 2, none⟩) hz2] at c2
  have hz3 := Nat.lt_of_lt_of_le hz2 hb4.size
  have hb5 := hb3.trans (hb4.mono (Nat.le_of_lt hz2))
  clear hb4 hb3 hz2
  go_wp2_with fail
  obtain ⟨fr, hfr⟩ : ∃ fr, daysN y m 1 + n - 1 = fr := ⟨_, rfl⟩
  have HS := Lib.hid hfr
  have HB := Lib.hid (HA.out fr hfr)
  clear HA
  have hs1 : -135147 ≤ fr ∧ fr ≤ 157060 := by omega
  obtain ⟨hs1, hs2⟩ := hs1
  clear hfr
  go_loopw [16] (fun v wr => ∃ j : Int, 0 ≤ j ∧ j ≤ (wd - fr - 4) % 7 ∧ v = .int .i64 (fr + j) ∧ wr.cell? ⟨w.heap.size, 0, none⟩ = some (.int .i64 3) ∧ wr.cell? ⟨w.heap.size, 1, none⟩ = some (.int .i64 wd) ∧ Below w.heap.size w wr) (fun v _ => (200000 - intOf v).toNat)
  case atStart => exact ⟨0, by omega, by omega, congrArg _ (by have := HS.out; omega), c0, c1, hb5⟩
  case round =>
    clear c0 c1 c2 hz3 hb5
    obtain ⟨j, hj1, hj2, rfl, c0, c1, hbr⟩ := hrel
    have hle : fr + j ≤ daysN y m 1 + n - 1 + 6 := by have := HS.out; omega
    by_cases hw : (fr + j + 4) % 7 = wd
    · have hj : j = (wd - fr - 4) % 7 := by omega
      have Hj := Lib.hid hj
      clear hj
      by_cases hin : dateOk (fr + j) = true
      · have hy : dateOk (fr + (wd - fr - 4) % 7) = true := by rw [← Hj.out]; exact hin
        have Hy := Lib.hid (dof_in H.out H2.out h3 (by rw [HB.out]; exact hy))
        have ht : isTimeB (86400 * (fr + j)) = true := by rw [isTime_day]; exact hin
        clear hy hin
        go_wp2_with fail
        go_quiet ((go_at_call 96; exact Calls.quiet_of_same ((r_Weekday _ (by omega) (by omega) _).mono fun e w' h => ⟨h.1, h.2.symm⟩)))
        go_wp2_with (first | (go_at_call 44; refine (r_IsTime _ _).mono ?_; rintro e w' ⟨rfl, rfl⟩))
        go_ret2
        exact ⟨ret_ii (a := fr + j) (c := 0) (by have e1 := Hy.out.1; have e2 := HB.out; have e3 := Hj.out; omega) (Hy.out.2).symm, below_drewN hbr _⟩
      · have hin := eq_false_of_ne_true hin
        have hy : dateOk (fr + (wd - fr - 4) % 7) = false := by rw [← Hj.out]; exact hin
        have Hy := Lib.hid (dof_out H.out H2.out h3 (by rw [HB.out]; exact hy))
        have ht : isTimeB (86400 * (fr + j)) = false := by rw [isTime_day]; exact hin
        clear hy hin
        go_wp2_with fail
        go_quiet ((go_at_call 96; exact Calls.quiet_of_same ((r_Weekday _ (by omega) (by omega) _).mono fun e w' h => ⟨h.1, h.2.symm⟩)))
        go_wp2_with (first | (go_at_call 44; refine (r_IsTime _ _).mono ?_; rintro e w' ⟨rfl, rfl⟩))
        go_ret2
        exact ⟨ret_ii (Hy.out.1).symm (Hy.out.2).symm, below_drewN hbr _⟩
    · have hj : j < (wd - fr - 4) % 7 := by omega
      go_wp2_with fail
      go_quiet ((go_at_call 96; exact Calls.quiet_of_same ((r_Weekday _ (by omega) (by omega) _).mono fun e w' h => ⟨h.1, h.2.symm⟩)))
      go_wp2_with fail
      go_roundw
      case rel => exact ⟨j + 1, by omega, by omega, congrArg _ (by omega), c0, c1, below_drewN hbr _⟩
      case measure => simp [intOf]; omega
set_option maxHeartbeats 4000000 in
theorem r_DayOf_till (y m k wd n : Int) (h : dcOk k wd n = true) (h2 : lenOk y m = true) (h3 : n ≤ lenM y m) (hk : k = 4) (w : World) :
    Calls Tryz.prog 37 #[.int .i64 y, .int .i64 m, .agg #[.int .i64 k, .int .i64 wd, .int .i64 n]] w fun e w' => e = .returned (.tuple #[.int .i64 (dofV y m k wd n), .int .i64 (dofE y m k wd n)]) ∧ Below w.heap.size w w' := by
  subst hk
  have hE := dcE_ok h
  have hL := lenE_ok h2
  have hV := lenV_ok h2
  obtain ⟨k1, k2, k3, k4⟩ := lenOk_iff.1 h2
  obtain ⟨b1, b2⟩ := lenM_bd y m
  have hd : dayOk y m 1 = true := dayOk_iff.2 ⟨k1, k2, k3, k4, by omega, by omega⟩
  have hdV := daysV_ok hd
  have hdE := daysE_ok hd
  obtain ⟨i1, i2⟩ := month_in h2
  have hw : 0 ≤ wd ∧ wd ≤ 6 := by have := dcOk_iff.1 h; omega
  obtain ⟨w1', w2'⟩ := hw
  have hn : 1 ≤ n ∧ n ≤ 31 := by have := dcOk_iff.1 h; omega
  obtain ⟨n1, n2⟩ := hn
  have HA : Hid (∀ fr, daysN y m 1 + n - 1 - 6 = fr → dofAt y m 4 wd n = fr + (wd - fr - 4) % 7) := Lib.hid (by intro fr hf; simp [dofAt, dofS]; omega)
  have H := Lib.hid h
  have H2 := Lib.hid h2
  clear h h2 hd
  go_enter Tryz.func37, Tryz.ntmps37
  go_wp2_with fail
  refine (r_DayCheck _ _ _ _).mono ?_
  rintro e w1 ⟨rfl, hb⟩
  obtain ⟨c0, c1, c2, hz, hb'⟩ := box3 hb
  clear hb
  go_wp2_with fail
  refine (r_Length _ _ _).mono ?_
  rintro e w2 ⟨rfl, hb2⟩
  rw [← hb2.cell (p := ⟨w.heap.size, 0, none⟩) hz] at c0
  rw [← hb2.cell (p := ⟨w.heap.size, 1, none⟩) hz] at c1
  rw [← hb2.cell (p := ⟨w.heap.size, 2, none⟩) hz] at c2
  have hz2 := Nat.lt_of_lt_of_le hz hb2.size
  have hb3 := hb'.trans (hb2.mono (Nat.le_of_lt hz))
  clear hb2 hb' hz
  go_wp2_with fail
  refine (r_Days _ _ _ _).mono ?_
  rintro e w3 ⟨rfl, hb4⟩
  rw [← hb4.cell (p := ⟨w.heap.size, 0, none⟩) hz2] at c0
  rw [← hb4.cell (p := ⟨w.heap.size, 1, none⟩) hz2] at c1
  rw [← hb4.cell (p := ⟨w.heap.size, 2, none⟩) hz2] at c2
  have hz3 := Nat.lt_of_lt_of_le hz2 hb4.size
  have hb5 := hb3.trans (hb4.mono (Nat.le_of_lt hz2))
  clear hb4 hb3 hz2
  go_wp2_with fail
  obtain ⟨fr, hfr⟩ : ∃ fr, daysN y m 1 + n - 1 - 6 = fr := ⟨_, rfl⟩
  have HS := Lib.hid hfr
  have HB := Lib.hid (HA.out fr hfr)
  clear HA
  have hs1 : -135147 ≤ fr ∧ fr ≤ 157060 := by omega
  obtain ⟨hs1, hs2⟩ := hs1
  clear hfr
  go_loopw [16] (fun v wr => ∃ j : Int, 0 ≤ j ∧ j ≤ (wd - fr - 4) % 7 ∧ v = .int .i64 (fr + j) ∧ wr.cell? ⟨w.heap.size, 0, none⟩ = some (.int .i64 4) ∧ wr.cell? ⟨w.heap.size, 1, none⟩ = some (.int .i64 wd) ∧ Below w.heap.size w wr) (fun v _ => (200000 - intOf v).toNat)
  case atStart => exact ⟨0, by omega, by omega, congrArg _ (by have := HS.out; omega), c0, c1, hb5⟩
  case round =>
    clear c0 c1 c2 hz3 hb5
    obtain ⟨j, hj1, hj2, rfl, c0, c1, hbr⟩ := hrel
    have hle : fr + j ≤ daysN y m 1 + n - 1 := by have := HS.out; omega
    by_cases hw : (fr + j + 4) % 7 = wd
    · have hj : j = (wd - fr - 4) % 7 := by omega
      have Hj := Lib.hid hj
      clear hj
      by_cases hin : dateOk (fr + j) = true
      · have hy : dateOk (fr + (wd - fr - 4) % 7) = true := by rw [← Hj.out]; exact hin
        have Hy := Lib.hid (dof_in H.out H2.out h3 (by rw [HB.out]; exact hy))
        have ht : isTimeB (86400 * (fr + j)) = true := by rw [isTime_day]; exact hin
        clear hy hin
        go_wp2_with fail
        go_quiet ((go_at_call 96; exact Calls.quiet_of_same ((r_Weekday _ (by omega) (by omega) _).mono fun e w' h => ⟨h.1, h.2.symm⟩)))
        go_wp2_with (first | (go_at_call 44; refine (r_IsTime _ _).mono ?_; rintro e w' ⟨rfl, rfl⟩))
        go_ret2
        exact ⟨ret_ii (a := fr + j) (c := 0) (by have e1 := Hy.out.1; have e2 := HB.out; have e3 := Hj.out; omega) (Hy.out.2).symm, below_drewN hbr _⟩
      · have hin := eq_false_of_ne_true hin
        have hy : dateOk (fr + (wd - fr - 4) % 7) = false := by rw [← Hj.out]; exact hin
        have Hy := Lib.hid (dof_out H.out H2.out h3 (by rw [HB.out]; exact hy))
        have ht : isTimeB (86400 * (fr + j)) = false := by rw [isTime_day]; exact hin
        clear hy hin
        go_wp2_with fail
        go_quiet ((go_at_call 96; exact Calls.quiet_of_same ((r_Weekday _ (by omega) (by omega) _).mono fun e w' h => ⟨h.1, h.2.symm⟩)))
        go_wp2_with (first | (go_at_call 44; refine (r_IsTime _ _).mono ?_; rintro e w' ⟨rfl, rfl⟩))
        go_ret2
        exact ⟨ret_ii (Hy.out.1).symm (Hy.out.2).symm, below_drewN hbr _⟩
    · have hj : j < (wd - fr - 4) % 7 := by omega
      go_wp2_with fail
      go_quiet ((go_at_call 96; exact Calls.quiet_of_same ((r_Weekday _ (by omega) (by omega) _).mono fun e w' h => ⟨h.1, h.2.symm⟩)))
      go_wp2_with fail
      go_roundw
      case rel => exact ⟨j + 1, by omega, by omega, congrArg _ (by omega), c0, c1, below_drewN hbr _⟩
      case measure => simp [intOf]; omega

theorem r_DayOf (y m k wd n : Int) (w : World) :
    Calls Tryz.prog 37 #[.int .i64 y, .int .i64 m, .agg #[.int .i64 k, .int .i64 wd, .int .i64 n]] w fun e w' => e = .returned (.tuple #[.int .i64 (dofV y m k wd n), .int .i64 (dofE y m k wd n)]) ∧ Below w.heap.size w w' := by
  by_cases h : dcOk k wd n = true
  · by_cases h2 : lenOk y m = true
    · by_cases h3 : n ≤ lenM y m
      · have hk : k = 1 ∨ k = 2 ∨ k = 3 ∨ k = 4 := by have := dcOk_iff.1 h; omega
        rcases hk with hk | hk | hk | hk
        · exact r_DayOf_one y m k wd n h h2 h3 hk w
        · exact r_DayOf_last y m k wd n h h2 h3 hk w
        · exact r_DayOf_from y m k wd n h h2 h3 hk w
        · exact r_DayOf_till y m k wd n h h2 h3 hk w
      · have e := dof_none h h2 (by omega); rw [e.1, e.2]; exact r_DayOf_none y m k wd n h h2 (by omega) w
    · have h2 := eq_false_of_ne_true h2
      have e := dof_len h h2; rw [e.1, e.2]; exact r_DayOf_len y m k wd n h h2 w
  · have h := eq_false_of_ne_true h
    have e := dof_bad (y := y) (m := m) h; rw [e.1, e.2]; exact r_DayOf_bad y m k wd n h w
end Go.Proofs.YtanaoohgpdcfjaaGreatDoor
