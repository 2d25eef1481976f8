/- Walks of the reference's calendar: Length, yearDay, Days, Date, Weekday and what they call. -/
import Derived.Test.YtanaoohgpdcfjaaGreatDoorBase
import Derived.Test.YtanaoohgpdcfjaaGreatDoorPln
namespace Go.Proofs.YtanaoohgpdcfjaaGreatDoor
open Go.RowKit
set_option linter.unusedVariables false

set_option maxHeartbeats 400000 in
theorem r_outside (n a b : Int) (w : World) :
    Calls Tryz.prog 72 #[.int .i64 n, .int .i64 a, .int .i64 b] w fun e w' => e = .returned (.bool (decide (n < a ∨ b < n))) ∧ w = w' := by
  by_cases h1 : n < a
  · go_enter Tryz.func72, Tryz.ntmps72
    go_wp2
    go_ret
    exact ⟨ret_bool (by simp [h1]), rfl⟩
  · go_enter Tryz.func72, Tryz.ntmps72
    go_wp2
    go_ret
    exact ⟨ret_bool (by simp; omega), rfl⟩

set_option maxHeartbeats 400000 in
theorem r_Long (y : Int) (h : 0 ≤ y) (w : World) :
    Calls Tryz.prog 148 #[.int .i64 y] w fun e w' => e = .returned (.bool (isLongB y)) ∧ w = w' := by
  go_enter Tryz.func148, Tryz.ntmps148
  go_wp2
  all_goals (go_ret; exact ⟨ret_bool (by simp [isLongB, *] <;> omega), rfl⟩)

theorem months (f : Int) (y m : Int) (h1 : 1 ≤ m) (h2 : m ≤ 12) (hf : f = 28 + longN y) :
    ([Value.int .i64 31, .int .i64 f, .int .i64 31, .int .i64 30, .int .i64 31, .int .i64 30, .int .i64 31, .int .i64 31, .int .i64 30, .int .i64 31, .int .i64 30, .int .i64 31] : List Value)[m.toNat - 1]? = some (.int .i64 (lenM y m)) := by
  have : m = 1 ∨ m = 2 ∨ m = 3 ∨ m = 4 ∨ m = 5 ∨ m = 6 ∨ m = 7 ∨ m = 8 ∨ m = 9 ∨ m = 10 ∨ m = 11 ∨ m = 12 := by omega
  rcases this with h | h | h | h | h | h | h | h | h | h | h | h <;> subst h <;> simp [lenM, hf]
set_option maxHeartbeats 1000000 in
theorem r_Length_yes (y m : Int) (h : lenOk y m = true) (w : World) :
    Calls Tryz.prog 92 #[.int .i64 y, .int .i64 m] w fun e w' => e = .returned (.tuple #[.int .i64 (lenM y m), .int .i64 0]) ∧ Below w.heap.size w w' := by
  obtain ⟨hb1, hb2, hb3, hb4⟩ := lenOk_iff.1 h
  clear h
  have o1 : decide (y < 1600 ∨ 2399 < y) = false := by simp; omega
  have o2 : decide (m < 1 ∨ 12 < m) = false := by simp; omega
  by_cases hl : isLongB y = true
  · have hm := months 29 y m hb3 hb4 (by rw [longN, if_pos hl]; rfl)
    go_enter Tryz.func92, Tryz.ntmps92
    go_wp2_with (first | (go_at_call 72; refine (r_outside _ _ _ _).mono ?_; rintro e w' ⟨rfl, rfl⟩) | (go_at_call 148; refine (r_Long _ (by omega) _).mono ?_; rintro e w' ⟨rfl, rfl⟩))
    go_ret2
    exact ⟨rfl, by repeat (first | exact Below.refl _ _ | apply Below.drew | (refine Below.alloc ?_ (by simp) _) | (refine Below.setCell ?_ (by simp) _))⟩
  · have hm := months 28 y m hb3 hb4 (by rw [longN, if_neg hl]; rfl)
    have hl := eq_false_of_ne_true hl
    go_enter Tryz.func92, Tryz.ntmps92
    go_wp2_with (first | (go_at_call 72; refine (r_outside _ _ _ _).mono ?_; rintro e w' ⟨rfl, rfl⟩) | (go_at_call 148; refine (r_Long _ (by omega) _).mono ?_; rintro e w' ⟨rfl, rfl⟩))
    go_ret2
    exact ⟨rfl, by repeat (first | exact Below.refl _ _ | apply Below.drew | (refine Below.alloc ?_ (by simp) _) | (refine Below.setCell ?_ (by simp) _))⟩
set_option maxHeartbeats 1000000 in
theorem r_Length_no (y m : Int) (h : lenOk y m = false) (w : World) :
    Calls Tryz.prog 92 #[.int .i64 y, .int .i64 m] w fun e w' => e = .returned (.tuple #[.int .i64 0, .int .i64 1]) ∧ w = w' := by
  have hb := lenOk_no.1 h
  clear h
  by_cases hy : y < 1600 ∨ 2399 < y
  · have o1 : decide (y < 1600 ∨ 2399 < y) = true := by simpa using hy
    clear hy hb
    go_enter Tryz.func92, Tryz.ntmps92
    go_wp2_with (first | (go_at_call 72; refine (r_outside _ _ _ _).mono ?_; rintro e w' ⟨rfl, rfl⟩))
    go_ret2
    exact ⟨rfl, rfl⟩
  · have o1 : decide (y < 1600 ∨ 2399 < y) = false := by simpa using hy
    have o2 : decide (m < 1 ∨ 12 < m) = true := by simp; omega
    clear hy hb
    go_enter Tryz.func92, Tryz.ntmps92
    go_wp2_with (first | (go_at_call 72; refine (r_outside _ _ _ _).mono ?_; rintro e w' ⟨rfl, rfl⟩))
    go_ret2
    exact ⟨rfl, rfl⟩
theorem r_Length (y m : Int) (w : World) :
    Calls Tryz.prog 92 #[.int .i64 y, .int .i64 m] w fun e w' => e = .returned (.tuple #[.int .i64 (lenV y m), .int .i64 (lenE y m)]) ∧ Below w.heap.size w w' := by
  by_cases h : lenOk y m = true
  · rw [lenV_ok h, lenE_ok h]; exact r_Length_yes y m h w
  · have h := eq_false_of_ne_true h
    rw [lenV_no h, lenE_no h]
    refine (r_Length_no y m h w).mono ?_
    rintro e w' ⟨rfl, rfl⟩; exact ⟨rfl, Below.refl _ _⟩

set_option maxHeartbeats 1000000 in
theorem r_yearDay_late (y : Int) (h1 : 1970 ≤ y) (h2 : y ≤ 2500) (w : World) :
    Calls Tryz.prog 109 #[.int .i64 y] w fun e w' => e = .returned (.int .i64 (yd y)) ∧ w = w' := by
  go_enter Tryz.func109, Tryz.ntmps109
  go_wp2_with fail
  go_loop [3, 4] (fun n i => ∃ k : Int, 1970 ≤ k ∧ k ≤ y ∧ i = .int .i64 k ∧ n = .int .i64 (yd k)) (fun _ i => (y - intOf i).toNat)
  case atStart => exact ⟨1970, by omega, by omega, rfl, rfl⟩
  case round =>
    obtain ⟨k, hk1, hk2, rfl, rfl⟩ := hrel
    have hb := yd_bd k (by omega) (by omega)
    obtain ⟨hb1, hb2⟩ := hb
    have hs := Lib.hid (yd_succ k)
    by_cases hlt : k < y
    · by_cases hl : isLongB k = true
      · have hN : longN k = 1 := by rw [longN, if_pos hl]
        have HN := Lib.hid hN; clear hN
        go_wp2_with (first | (go_at_call 148; refine (r_Long _ (by omega) _).mono ?_; rintro e w' ⟨rfl, rfl⟩))
        go_round
        case rel => exact ⟨k + 1, by omega, by omega, rfl, by rw [hs.out, HN.out]⟩
        case measure => simp [intOf]; omega
      · have hN : longN k = 0 := by rw [longN, if_neg hl]
        have HN := Lib.hid hN; clear hN
        have hl := eq_false_of_ne_true hl
        go_wp2_with (first | (go_at_call 148; refine (r_Long _ (by omega) _).mono ?_; rintro e w' ⟨rfl, rfl⟩))
        go_round
        case rel => exact ⟨k + 1, by omega, by omega, rfl, by rw [hs.out, HN.out, Int.add_zero]⟩
        case measure => simp [intOf]; omega
    · have hy : k = y := by omega
      have HY := Lib.hid hy; clear hy
      go_wp2_with fail
      go_loop [3, 5] (fun n i => n = .int .i64 (yd k) ∧ i = .int .i64 y) (fun _ i => 0)
      case atStart => exact ⟨rfl, rfl⟩
      case round =>
        obtain ⟨rfl, rfl⟩ := hrel
        go_wp2_with fail
        go_ret
        exact ⟨by rw [HY.out]; rfl, rfl⟩
set_option maxHeartbeats 1000000 in
theorem r_yearDay_early (y : Int) (h1 : 1500 ≤ y) (h2 : y < 1970) (w : World) :
    Calls Tryz.prog 109 #[.int .i64 y] w fun e w' => e = .returned (.int .i64 (yd y)) ∧ w = w' := by
  have hby := yd_bd y (by omega) (by omega)
  obtain ⟨hby1, hby2⟩ := hby
  go_enter Tryz.func109, Tryz.ntmps109
  go_wp2_with fail
  go_loop [3, 4] (fun n i => n = .int .i64 0 ∧ i = .int .i64 1970) (fun _ i => 0)
  case atStart => exact ⟨rfl, rfl⟩
  case round =>
    obtain ⟨rfl, rfl⟩ := hrel
    go_wp2_with fail
    go_loop [3, 5] (fun n i => ∃ k : Int, y ≤ k ∧ k ≤ 1970 ∧ i = .int .i64 k ∧ n = .int .i64 (yd y - yd k)) (fun _ i => (1970 - intOf i).toNat)
    case atStart => exact ⟨y, by omega, by omega, rfl, by rw [Int.sub_self]⟩
    case round =>
      obtain ⟨k, hk1, hk2, rfl, rfl⟩ := hrel
      have hb := yd_bd k (by omega) (by omega)
      obtain ⟨hb1, hb2⟩ := hb
      have hs := Lib.hid (yd_succ k)
      by_cases hlt : k < 1970
      · by_cases hl : isLongB k = true
        · have hN : longN k = 1 := by rw [longN, if_pos hl]
          have HN := Lib.hid hN; clear hN
          go_wp2_with (first | (go_at_call 148; refine (r_Long _ (by omega) _).mono ?_; rintro e w' ⟨rfl, rfl⟩))
          go_round
          case rel => exact ⟨k + 1, by omega, by omega, rfl, congrArg _ (by rw [hs.out, HN.out]; omega)⟩
          case measure => simp [intOf]; omega
        · have hN : longN k = 0 := by rw [longN, if_neg hl]
          have HN := Lib.hid hN; clear hN
          have hl := eq_false_of_ne_true hl
          go_wp2_with (first | (go_at_call 148; refine (r_Long _ (by omega) _).mono ?_; rintro e w' ⟨rfl, rfl⟩))
          go_round
          case rel => exact ⟨k + 1, by omega, by omega, rfl, congrArg _ (by rw [hs.out, HN.out]; omega)⟩
          case measure => simp [intOf]; omega
      · obtain rfl : k = 1970 := by omega
        go_wp2_with fail
        go_ret
        exact ⟨ret_int (by have : yd 1970 = 0 := by decide
                           omega), rfl⟩
theorem r_yearDay (y : Int) (h1 : 1500 ≤ y) (h2 : y ≤ 2500) (w : World) :
    Calls Tryz.prog 109 #[.int .i64 y] w fun e w' => e = .returned (.int .i64 (yd y)) ∧ w = w' := by
  by_cases h : 1970 ≤ y
  · exact r_yearDay_late y h h2 w
  · exact r_yearDay_early y h1 (by omega) w

set_option maxHeartbeats 1000000 in
theorem r_Days_yes (y m d : Int) (h : dayOk y m d = true) (w : World) :
    Calls Tryz.prog 95 #[.int .i64 y, .int .i64 m, .int .i64 d] w fun e w' => e = .returned (.tuple #[.int .i64 (daysN y m d), .int .i64 0]) ∧ Below w.heap.size w w' := by
  obtain ⟨hb1, hb2, hb3, hb4, hb5, hb6⟩ := dayOk_iff.1 h
  clear h
  have hl := lenOk_iff.2 ⟨hb1, hb2, hb3, hb4⟩
  have Hl := Lib.hid hl; clear hl
  have hE := lenE_ok Hl.out
  have hV := lenV_ok Hl.out
  obtain ⟨hbd1, hbd2⟩ := lenM_bd y m
  have o1 : decide (d < 1 ∨ lenM y m < d) = false := by simp; omega
  obtain ⟨z1, z2⟩ := yd_bd y (by omega) (by omega)
  go_enter Tryz.func95, Tryz.ntmps95
  go_wp2_with (first | (go_at_call 92; refine (r_Length _ _ _).mono ?_; rintro e w1 ⟨rfl, hbw⟩) | (go_at_call 72; refine (r_outside _ _ _ _).mono ?_; rintro e w' ⟨rfl, rfl⟩) | (go_at_call 109; refine (r_yearDay _ (by omega) (by omega) _).mono ?_; rintro e w' ⟨rfl, rfl⟩))
  clear o1 hE hV
  go_loopw [10, 11, 12, 13] (fun n k _ _ wr => ∃ j : Int, 1 ≤ j ∧ j ≤ m ∧ k = .int .i64 j ∧ n = .int .i64 (yd y + cum y j + d - 1) ∧ Below w.heap.size w wr) (fun _ k _ _ _ => (m - intOf k).toNat)
  case atStart => exact ⟨1, by omega, by omega, rfl, by rw [cum_one, Int.add_zero], hbw⟩
  case round =>
    obtain ⟨j, hj1, hj2, rfl, rfl, hbr⟩ := hrel
    have cs := Lib.hid (cum_succ y j hj1 (by omega))
    obtain ⟨cb1, cb2⟩ := cum_bd y j hj1 (by omega)
    obtain ⟨lb1, lb2⟩ := lenM_bd y j
    by_cases hlt : j < m
    · have hE := lenE_ok (lenOk_iff.2 ⟨hb1, hb2, hj1, by omega⟩ : lenOk y j = true)
      have hV := lenV_ok (lenOk_iff.2 ⟨hb1, hb2, hj1, by omega⟩ : lenOk y j = true)
      go_wp2_with (first | (go_at_call 92; refine (r_Length _ _ _).mono ?_; rintro e w2 ⟨rfl, hbw2⟩))
      go_roundw
      case rel => exact ⟨j + 1, by omega, by omega, rfl, congrArg _ (by rw [cs.out]; omega), hbr.trans (hbw2.mono hbr.size)⟩
      case measure => simp [intOf]; omega
    · obtain rfl : j = m := by omega
      go_wp2_with fail
      go_ret2
      exact ⟨rfl, hbr⟩

set_option maxHeartbeats 1000000 in
theorem r_Days_no (y m d : Int) (h : dayOk y m d = false) (w : World) :
    Calls Tryz.prog 95 #[.int .i64 y, .int .i64 m, .int .i64 d] w fun e w' => e = .returned (.tuple #[.int .i64 0, .int .i64 1]) ∧ Below w.heap.size w w' := by
  by_cases hl : lenOk y m = true
  · have o1 : decide (d < 1 ∨ lenM y m < d) = true := by
      have := dayOk_no.1 h; have := lenOk_iff.1 hl
      simp; omega
    have hE := lenE_ok hl
    have hV := lenV_ok hl
    clear h hl
    go_enter Tryz.func95, Tryz.ntmps95
    go_wp2_with (first | (go_at_call 92; refine (r_Length _ _ _).mono ?_; rintro e w1 ⟨rfl, hbw⟩) | (go_at_call 72; refine (r_outside _ _ _ _).mono ?_; rintro e w' ⟨rfl, rfl⟩))
    go_ret2
    exact ⟨rfl, hbw⟩
  · have hl := eq_false_of_ne_true hl
    have hE := lenE_no hl
    clear h hl
    go_enter Tryz.func95, Tryz.ntmps95
    go_wp2_with (first | (go_at_call 92; refine (r_Length _ _ _).mono ?_; rintro e w1 ⟨rfl, hbw⟩) | (go_at_call 72; refine (r_outside _ _ _ _).mono ?_; rintro e w' ⟨rfl, rfl⟩))
    go_ret2
    exact ⟨rfl, hbw⟩
theorem r_Days (y m d : Int) (w : World) :
    Calls Tryz.prog 95 #[.int .i64 y, .int .i64 m, .int .i64 d] w fun e w' => e = .returned (.tuple #[.int .i64 (daysV y m d), .int .i64 (daysE y m d)]) ∧ Below w.heap.size w w' := by
  by_cases h : dayOk y m d = true
  · rw [daysV_ok h, daysE_ok h]; exact r_Days_yes y m d h w
  · have h := eq_false_of_ne_true h
    rw [daysV_no h, daysE_no h]; exact r_Days_no y m d h w

theorem tmod_fact' (a b : Int) (h : 0 < b) : ∃ q, a = b * q + a.tmod b ∧ -b < a.tmod b ∧ a.tmod b < b ∧ (0 ≤ a → 0 ≤ a.tmod b) ∧ (a ≤ 0 → a.tmod b ≤ 0) := by
  refine ⟨a.tdiv b, (Int.mul_tdiv_add_tmod a b).symm, ?_, Int.tmod_lt_of_pos a h, fun h0 => Int.tmod_nonneg b h0, ?_⟩
  · have := Int.lt_tmod_of_pos a h; omega
  · intro h0
    have := Int.tmod_nonneg b (show 0 ≤ -a by omega)
    rw [Int.neg_tmod] at this; omega
theorem tdiv_fact (a b : Int) (h : 0 < b) : ∃ r, a = b * a.tdiv b + r ∧ -b < r ∧ r < b ∧ (0 ≤ a → 0 ≤ r) := by
  refine ⟨a.tmod b, (Int.mul_tdiv_add_tmod a b).symm, ?_, Int.tmod_lt_of_pos a h, fun h0 => Int.tmod_nonneg b h0⟩
  have := Int.lt_tmod_of_pos a h; omega

set_option maxHeartbeats 1000000 in
theorem r_Rest (n m : Int) (h : 0 < m) (h1 : -9223372036854775000 ≤ n) (h2 : n ≤ 9223372036854775000) (h3 : m ≤ 1000000000000) (w : World) :
    Calls Tryz.prog 27 #[.int .i64 n, .int .i64 m] w fun e w' => e = .returned (.int .i64 (n % m)) ∧ w = w' := by
  obtain ⟨q, t1, t2, t3, t4, t5⟩ := tmod_fact' n m h
  obtain ⟨t, ht⟩ : ∃ t, n.tmod m = t := ⟨_, rfl⟩
  rw [ht] at t1 t2 t3 t4 t5
  have HT := Lib.hid t1; clear t1
  by_cases hc : t < 0
  · have hq : n % m = t + m := by
      rw [HT.out, show m * q + t = t + m + m * (q - 1) by rw [Int.mul_sub]; omega, Int.add_mul_emod_self_left, Int.emod_eq_of_lt (by omega) (by omega)]
    have HQ := Lib.hid hq; clear hq
    have hn : n < 0 := by by_cases hx : n < 0; exact hx; have := t4 (by omega); omega
    clear t4 t5
    go_enter Tryz.func27, Tryz.ntmps27
    go_wp2
    go_ret
    exact ⟨ret_int HQ.out.symm, rfl⟩
  · have hq : n % m = t := by
      rw [HT.out, show m * q + t = t + m * q by omega, Int.add_mul_emod_self_left, Int.emod_eq_of_lt (by omega) (by omega)]
    have HQ := Lib.hid hq; clear hq
    clear t4 t5
    by_cases hn : 0 ≤ n
    · have e : n.tmod m = n % m := Int.tmod_eq_emod_of_nonneg hn
      have e2 : n % m = t := by rw [← e]; exact ht
      clear ht
      go_enter Tryz.func27, Tryz.ntmps27
      go_wp2
      go_ret
      exact ⟨rfl, rfl⟩
    · go_enter Tryz.func27, Tryz.ntmps27
      go_wp2
      go_ret
      exact ⟨by rw [HQ.out]; rfl, rfl⟩
set_option maxHeartbeats 1000000 in
theorem r_Weekday (n : Int) (h1 : -1000000 ≤ n) (h2 : n ≤ 1000000) (w : World) :
    Calls Tryz.prog 96 #[.int .i64 n] w fun e w' => e = .returned (.int .i64 ((n + 4) % 7)) ∧ w = w' := by
  go_enter Tryz.func96, Tryz.ntmps96
  go_wp2_with (first | (go_at_call 27; refine (r_Rest _ _ (by omega) (by omega) (by omega) (by omega) _).mono ?_; rintro e w' ⟨rfl, rfl⟩))
  go_ret
  exact ⟨rfl, rfl⟩
end Go.Proofs.YtanaoohgpdcfjaaGreatDoor
