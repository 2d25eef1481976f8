/- Part 16 of the proof of TopWall: no condition; what its declarations say stands at each. -/
import Derived.Test.YthppifcggmdmoaaGreatDoorW02
import Derived.Test.YthppifcggmdmoaaGreatDoorW03
namespace Go.Proofs.YthppifcggmdmoaaGreatDoor
open Go.RowKit
set_option linter.unusedVariables false

set_option maxHeartbeats 400000 in
theorem c_isLong (y : Int) (h : 0 ≤ y) (w : World) :
  Calls Tryz.prog 179 #[.int .i64 y] w fun e w' => e = .returned (.bool (isLongB y)) ∧ w = w' := by
 go_enter Tryz.func179, Tryz.ntmps179
 go_wp2
 all_goals (go_ret; exact ⟨ret_bool (by simp [isLongB, *]), rfl⟩)

set_option maxHeartbeats 400000 in
theorem c_isYear (y : Int) (w : World) :
  Calls Tryz.prog 149 #[.int .i64 y] w fun e w' => e = .returned (.bool (decide (1600 ≤ y ∧ y ≤ 2399))) ∧ w = w' := by
 go_enter Tryz.func149, Tryz.ntmps149
 go_wp2
 all_goals (go_ret; exact ⟨ret_bool (by first | (simp [*]; done) | (simp; omega)), rfl⟩)

set_option maxHeartbeats 400000 in
theorem c_length (y m : Int) (h : 0 ≤ y) (h1 : 1 ≤ m) (h2 : m ≤ 12) (w : World) :
  Calls Tryz.prog 150 #[.int .i64 y, .int .i64 m] w fun e w' => e = .returned (.int .i64 (lenM y m)) ∧ w = w' := by
 by_cases hm : m = 2
 ·subst hm
  by_cases hl : isLongB y = true
  all_goals
   go_enter Tryz.func150, Tryz.ntmps150
   go_wp2_with (go_at_call 179; refine (c_isLong _ h _).mono ?_; rintro e w' ⟨rfl, rfl⟩)
   go_ret
   exact ⟨ret_int (by simp [lenM, longN, *]), rfl⟩
 ·go_enter Tryz.func150, Tryz.ntmps150
  go_wp2
  go_ret
  exact ⟨ret_int (by simp [lenM, *]), rfl⟩

set_option maxHeartbeats 400000 in
theorem c_Length (y m : Int) (w : World) :
  Calls Tryz.prog 102 #[.int .i64 y, .int .i64 m] w fun e w' => e = .returned (.tuple #[.int .i64 (lenV y m), .int .i64 (lenE y m)]) ∧ w = w' := by
 by_cases hy : 1600 ≤ y ∧ y ≤ 2399
 ·obtain ⟨ha, hb⟩ := hy
  have hd : decide (1600 ≤ y ∧ y ≤ 2399) = true := by simp [*]
  by_cases h1 : m < 1
  ·go_enter Tryz.func102, Tryz.ntmps102
   go_wp2_with (go_at_call 149; refine (c_isYear _ _).mono ?_; rintro e w' ⟨rfl, rfl⟩)
   go_ret2
   exact ⟨by rw [lenV, lenE, lenOk_no.2 (by omega)]; rfl, rfl⟩
  ·by_cases h2 : 12 < m
   ·go_enter Tryz.func102, Tryz.ntmps102
    go_wp2_with (go_at_call 149; refine (c_isYear _ _).mono ?_; rintro e w' ⟨rfl, rfl⟩)
    go_ret2
    exact ⟨by rw [lenV, lenE, lenOk_no.2 (by omega)]; rfl, rfl⟩
   ·go_enter Tryz.func102, Tryz.ntmps102
    go_wp2_with (first | (go_at_call 149; refine (c_isYear _ _).mono ?_; rintro e w' ⟨rfl, rfl⟩) | (go_at_call 150; refine (c_length _ _ (by omega) (by omega) (by omega) _).mono ?_; rintro e w' ⟨rfl, rfl⟩))
    go_ret2
    exact ⟨by rw [lenV, lenE, lenOk_iff.2 (by omega)]; rfl, rfl⟩
 ·have hd : decide (1600 ≤ y ∧ y ≤ 2399) = false := by simpa using hy
  go_enter Tryz.func102, Tryz.ntmps102
  go_wp2_with (go_at_call 149; refine (c_isYear _ _).mono ?_; rintro e w' ⟨rfl, rfl⟩)
  all_goals (go_ret2; exact ⟨by rw [lenV, lenE, lenOk_no.2 (by omega)]; rfl, rfl⟩)

set_option maxHeartbeats 400000 in
theorem c_days (y m d : Int) (h0 : 1600 ≤ y) (h9 : y ≤ 2400) (h1 : 1 ≤ m) (h2 : m ≤ 12) (h3 : 1 ≤ d) (h4 : d ≤ 31) (w : World) :
  Calls Tryz.prog 125 #[.int .i64 y, .int .i64 m, .int .i64 d] w fun e w' => e = .returned (.int .i64 (daysN y m d)) ∧ w = w' := by
 have dm := days_march y m d (by omega) h1 h2
 have Dm := Lib.hid dm; clear dm
 by_cases hm : m < 3
 ·go_enter Tryz.func125, Tryz.ntmps125
  go_wp2
  go_ret
  exact ⟨ret_int (by rw [← Dm.out.2 hm]), rfl⟩
 ·go_enter Tryz.func125, Tryz.ntmps125
  go_wp2
  go_ret
  exact ⟨ret_int (by rw [← Dm.out.1 (by omega)]), rfl⟩

set_option maxHeartbeats 400000 in
theorem c_Days (y m d : Int) (w : World) :
  Calls Tryz.prog 147 #[.int .i64 y, .int .i64 m, .int .i64 d] w fun e w' => e = .returned (.tuple #[.int .i64 (daysV y m d), .int .i64 (daysE y m d)]) ∧ w = w' := by
 by_cases hl : lenOk y m = true
 ·obtain ⟨hb1, hb2, hb3, hb4⟩ := lenOk_iff.1 hl
  have hE := lenE_ok hl
  have hV := lenV_ok hl
  obtain ⟨hbd1, hbd2⟩ := lenM_bd y m
  clear hl
  by_cases hd : 1 ≤ d ∧ d ≤ lenM y m
  ·obtain ⟨h1, h2⟩ := hd
   have Hq := Lib.hid (dayOk_iff.2 ⟨hb1, hb2, hb3, hb4, h1, h2⟩)
   go_enter Tryz.func147, Tryz.ntmps147
   go_wp2_with (first | (go_at_call 102; refine (c_Length _ _ _).mono ?_; rintro e w' ⟨rfl, rfl⟩) | (go_at_call 125; refine (c_days _ _ _ (by omega) (by omega) (by omega) (by omega) (by omega) (by omega) _).mono ?_; rintro e w' ⟨rfl, rfl⟩))
   go_ret2
   exact ⟨ret_ii (daysV_ok Hq.out).symm (daysE_ok Hq.out).symm, rfl⟩
  ·have Hq := Lib.hid (dayOk_no.2 (fun h => hd ⟨h.2.2.2.2.1, h.2.2.2.2.2⟩))
   by_cases h1 : d < 1
   ·clear hd
    go_enter Tryz.func147, Tryz.ntmps147
    go_wp2_with (go_at_call 102; refine (c_Length _ _ _).mono ?_; rintro e w' ⟨rfl, rfl⟩)
    go_ret2
    exact ⟨ret_ii (daysV_no Hq.out).symm (daysE_no Hq.out).symm, rfl⟩
   ·have h2 : lenM y m < d := by omega
    clear hd
    go_enter Tryz.func147, Tryz.ntmps147
    go_wp2_with (go_at_call 102; refine (c_Length _ _ _).mono ?_; rintro e w' ⟨rfl, rfl⟩)
    go_ret2
    exact ⟨ret_ii (daysV_no Hq.out).symm (daysE_no Hq.out).symm, rfl⟩
 ·have hl := eq_false_of_ne_true hl
  have hE := lenE_no hl
  have Hq := Lib.hid (show dayOk y m d = false by rw [dayOk, hl]; rfl)
  clear hl
  go_enter Tryz.func147, Tryz.ntmps147
  go_wp2_with (go_at_call 102; refine (c_Length _ _ _).mono ?_; rintro e w' ⟨rfl, rfl⟩)
  go_ret2
  exact ⟨ret_ii (daysV_no Hq.out).symm (daysE_no Hq.out).symm, rfl⟩

theorem day_first : daysN 1600 1 1 = -135140 := by decide
theorem day_final : daysN 2399 12 31 = 157053 := by decide
set_option maxHeartbeats 1000000 in
theorem c_Date_no (n : Int) (h : dateOk n = false) (w : World) :
  Calls Tryz.prog 78 #[.int .i64 n] w fun e w' => e = .returned (.tuple #[.int .i64 0, .int .i64 0, .int .i64 0, .int .i64 1]) ∧ w = w' := by
 have hh : ¬ (-135140 ≤ n ∧ n ≤ 157053) := by simpa [dateOk] using h
 clear h
 have d1 := day_first
 have d2 := day_final
 by_cases h1 : n < -135140
 ·clear hh
  go_enter Tryz.func78, Tryz.ntmps78
  go_wp2_with (go_at_call 125; refine (c_days _ _ _ (by omega) (by omega) (by omega) (by omega) (by omega) (by omega) _).mono ?_; rintro e w' ⟨rfl, rfl⟩)
  exact bodyPost_ret (v := .tuple #[.int .i64 0, .int .i64 0, .int .i64 0, .int .i64 1]) (by simp [results, Tryz.results78, go_sem]) rfl ⟨rfl, rfl⟩
 ·have h2 : 157053 < n := by omega
  clear hh
  go_enter Tryz.func78, Tryz.ntmps78
  go_wp2_with (go_at_call 125; refine (c_days _ _ _ (by omega) (by omega) (by omega) (by omega) (by omega) (by omega) _).mono ?_; rintro e w' ⟨rfl, rfl⟩)
  exact bodyPost_ret (v := .tuple #[.int .i64 0, .int .i64 0, .int .i64 0, .int .i64 1]) (by simp [results, Tryz.results78, go_sem]) rfl ⟨rfl, rfl⟩
set_option maxHeartbeats 1000000 in
theorem c_Date_yes (n : Int) (h : dateOk n = true) (w : World) :
  Calls Tryz.prog 78 #[.int .i64 n] w fun e w' => e = .returned (.tuple #[.int .i64 (dYear n), .int .i64 (dMon n), .int .i64 (dDay n), .int .i64 0]) ∧ w = w' := by
 have hh : -135140 ≤ n ∧ n ≤ 157053 := by simpa [dateOk] using h
 obtain ⟨⟨a1, a2⟩, ⟨b1, b2⟩, ⟨c1, c2⟩, ⟨g1, g2⟩, ⟨e1, e2⟩, ⟨f1, f2⟩, ⟨i1, i2⟩, ⟨j1, j2⟩⟩ := date_bd n h
 clear h
 obtain ⟨hh1, hh2⟩ := hh
 have d1 := day_first
 have d2 := day_final
 obtain ⟨r1, q1⟩ : ∃ r, dR1 n = r := ⟨_, rfl⟩
 obtain ⟨c, q0⟩ : ∃ r, (n + 719468) / 146097 = r := ⟨_, rfl⟩
 rw [q1] at a1 a2 b1 b2
 obtain ⟨k, qk⟩ : ∃ r, dK r1 = r := ⟨_, rfl⟩
 rw [qk] at b1 b2
 obtain ⟨r2, q2⟩ : ∃ r, dR2 n = r := ⟨_, rfl⟩
 rw [q2] at c1 c2
 obtain ⟨q, qq⟩ : ∃ r, r2 / 1461 = r := ⟨_, rfl⟩
 obtain ⟨r3, q3⟩ : ∃ r, dR3 n = r := ⟨_, rfl⟩
 rw [q3] at g1 g2 e1 e2
 obtain ⟨j, qj⟩ : ∃ r, dJ r3 = r := ⟨_, rfl⟩
 rw [qj] at e1 e2
 obtain ⟨r4, q4⟩ : ∃ r, dR4 n = r := ⟨_, rfl⟩
 rw [q4] at f1 f2
 obtain ⟨mp, qm⟩ : ∃ r, dMp n = r := ⟨_, rfl⟩
 rw [qm] at i1 i2
 have hc : 0 ≤ c ∧ c ≤ 10 := by omega
 obtain ⟨hc1, hc2⟩ := hc
 have HY : Hid (dY n = c * 400 + 100 * k + 4 * q + j) := Lib.hid (by rw [dY, q0, q1, qk, q2, qq, q3, qj])
 have HD : Hid (dDay n = r4 - (153 * mp + 2) / 5 + 1) := Lib.hid (by rw [dDay, q4, qm])
 have HM := Lib.hid qm
 unfold dMp at qm; rw [q4] at qm
 unfold dR4 at q4; rw [q3, qj] at q4
 unfold dR3 at q3; rw [q2, qq] at q3
 unfold dR2 at q2; rw [q1, qk] at q2
 unfold dR1 at q1
 unfold dK at qk
 unfold dJ at qj
 by_cases hm : 12 < mp + 3
 all_goals
  go_enter Tryz.func78, Tryz.ntmps78
  go_wp2_with (go_at_call 125; refine (c_days _ _ _ (by omega) (by omega) (by omega) (by omega) (by omega) (by omega) _).mono ?_; rintro e w' ⟨rfl, rfl⟩)
  refine bodyPost_ret (v := .tuple #[.int .i64 (dYear n), .int .i64 (dMon n), .int .i64 (dDay n), .int .i64 0]) ?_ rfl ⟨rfl, rfl⟩
  unfold dYear dMon
  rw [HM.out, HD.out, HY.out]
  simp [results, Tryz.results78, go_sem, hm] <;> omega

set_option maxHeartbeats 1000000 in
theorem c_Weekday_no (n : Int) (h : dateOk n = false) (w : World) :
  Calls Tryz.prog 159 #[.int .i64 n] w fun e w' => e = .returned (.tuple #[.int .i64 0, .int .i64 1]) ∧ w = w' := by
 have H := Lib.hid h; clear h
 go_enter Tryz.func159, Tryz.ntmps159
 go_wp2_with (go_at_call 78; refine (c_Date_no _ H.out _).mono ?_; rintro e w' ⟨rfl, rfl⟩)
 go_ret2
 exact ⟨rfl, rfl⟩
theorem tmod_fact (a b : Int) (h : 0 < b) : ∃ q, a = b * q + a.tmod b ∧ -b < a.tmod b ∧ a.tmod b < b ∧ (0 ≤ a → 0 ≤ a.tmod b) ∧ (a ≤ 0 → a.tmod b ≤ 0) := by
 refine ⟨a.tdiv b, (Int.mul_tdiv_add_tmod a b).symm, ?_, Int.tmod_lt_of_pos a h, fun h0 => Int.tmod_nonneg b h0, ?_⟩
 ·have := Int.lt_tmod_of_pos a h; omega
 ·intro h0
  have := Int.tmod_nonneg b (show 0 ≤ -a by omega)
  rw [Int.neg_tmod] at this; omega
set_option maxHeartbeats 1000000 in
theorem c_Weekday_yes (n : Int) (h : dateOk n = true) (w : World) :
  Calls Tryz.prog 159 #[.int .i64 n] w fun e w' => e = .returned (.tuple #[.int .i64 ((n + 4) % 7), .int .i64 0]) ∧ w = w' := by
 have hh : -135140 ≤ n ∧ n ≤ 157053 := by simpa [dateOk] using h
 obtain ⟨hh1, hh2⟩ := hh
 have H := Lib.hid h; clear h
 obtain ⟨q, t1, t2, t3, _, _⟩ := tmod_fact (n + 4) 7 (by omega)
 obtain ⟨t, ht⟩ : ∃ t, (n + 4).tmod 7 = t := ⟨_, rfl⟩
 rw [ht] at t1 t2 t3
 have HT := Lib.hid t1; clear t1
 go_enter Tryz.func159, Tryz.ntmps159
 go_wp2_with (go_at_call 78; refine (c_Date_yes _ H.out _).mono ?_; rintro e w' ⟨rfl, rfl⟩)
 go_ret2
 exact ⟨ret_ii (a := (t + 7) % 7) (c := 0) (by have := HT.out; omega) rfl, rfl⟩
end Go.Proofs.YthppifcggmdmoaaGreatDoor

