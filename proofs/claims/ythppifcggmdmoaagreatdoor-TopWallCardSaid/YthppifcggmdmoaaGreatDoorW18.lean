/- Part 18 of the proof of TopWall: no condition; what its declarations say stands at each. -/
import Derived.Test.YthppifcggmdmoaaGreatDoorW14
import Derived.Test.YthppifcggmdmoaaGreatDoorW03
import Derived.Test.YthppifcggmdmoaaGreatDoorW17
import Derived.Test.YthppifcggmdmoaaGreatDoorW02
namespace Go.Proofs.YthppifcggmdmoaaGreatDoor
open Go.RowKit
set_option linter.unusedVariables false
set_option maxHeartbeats 400000 in
theorem u_within (n a b : Int) (w : World) :
  Calls Tryz.prog 100 #[.int .i64 n, .int .i64 a, .int .i64 b] w fun e w' => e = .returned (.bool (decide (a ≤ n ∧ n ≤ b))) ∧ w = w' := by
 by_cases h1 : a ≤ n
 all_goals
  go_enter Tryz.func100, Tryz.ntmps100
  go_wp2
  go_ret
  exact ⟨ret_bool (by simp; omega), rfl⟩
set_option maxRecDepth 100000 in
set_option maxHeartbeats 4000000 in
theorem u_Check (name letter : ByteArray) (f t m k wd n a b sv : Int) (hn : name.size ≤ maxLen) (hl : letter.size ≤ maxLen) (w : World) :
  Calls Tryz.prog 55 #[.agg #[.string name, .int .i64 f, .int .i64 t, .int .i64 m, .int .i64 k, .int .i64 wd, .int .i64 n, .int .i64 a, .int .i64 b, .int .i64 sv, .string letter]] w
   fun e w' => e = .returned (.int .i64 (ruleE name letter f t m k wd n a b sv)) ∧ Below w.heap.size w w' := by
 cases hN : isNameB name.data.toList with
 | false =>
  have HS := Lib.hid (show ruleS name letter = false by rw [ruleS, hN]; rfl)
  go_enter Tryz.func55, Tryz.ntmps55
  go_wp2_with (first | (go_at_call 98; refine (u_IsName _ hn _).mono ?_; rintro e w' ⟨rfl, rfl⟩) | (go_at_call 37; refine (u_IsAbbr _ hl _).mono ?_; rintro e w' ⟨rfl, rfl⟩))
  go_ret
  exact ⟨ret_int (ruleE_3 HS.out).symm, (by repeat (first | exact Below.refl _ _ | assumption | apply Below.drew | apply below_drewN | (refine Below.alloc ?_ (by simp; try omega) _) | (refine Below.setCell ?_ (by simp; try omega) _)))⟩
 | true =>
  cases hS : ruleS name letter with
  | false =>
   have hD : (letter.toList == [45]) = false := by rw [ruleS, hN, Bool.true_and] at hS; exact (Bool.or_eq_false_iff.1 hS).1
   have hA : isAbbrB letter.data.toList = false := by rw [ruleS, hN, Bool.true_and] at hS; exact (Bool.or_eq_false_iff.1 hS).2
   have HS := Lib.hid hS
   clear hS
   go_enter Tryz.func55, Tryz.ntmps55
   go_wp2_with (first | (go_at_call 98; refine (u_IsName _ hn _).mono ?_; rintro e w' ⟨rfl, rfl⟩) | (go_at_call 37; refine (u_IsAbbr _ hl _).mono ?_; rintro e w' ⟨rfl, rfl⟩))
   go_ret
   exact ⟨ret_int (ruleE_3 HS.out).symm, (by repeat (first | exact Below.refl _ _ | assumption | apply Below.drew | apply below_drewN | (refine Below.alloc ?_ (by simp; try omega) _) | (refine Below.setCell ?_ (by simp; try omega) _)))⟩
  | true =>
   have HS := Lib.hid hS
   have hc : (letter.toList == [45]) = true ∨ ((letter.toList == [45]) = false ∧ isAbbrB letter.data.toList = true) := by
    rw [ruleS, hN, Bool.true_and, Bool.or_eq_true] at hS
    cases e : (letter.toList == [45]) with
    | true => exact Or.inl rfl
    | false => rw [e] at hS; exact Or.inr ⟨rfl, hS.resolve_left (by decide)⟩
   clear hS
   rcases hc with hD | ⟨hD, hA⟩
   all_goals
    go_enter Tryz.func55, Tryz.ntmps55
    go_wp2_with (first | (go_at_call 98; refine (u_IsName _ hn _).mono ?_; rintro e w' ⟨rfl, rfl⟩) | (go_at_call 37; refine (u_IsAbbr _ hl _).mono ?_; rintro e w' ⟨rfl, rfl⟩) | (go_at_call 100; refine (u_within _ _ _ _).mono ?_; rintro e w' ⟨rfl, rfl⟩) | (go_at_call 101; refine (d_Check _ _ _ _).mono ?_; rintro e w1 ⟨rfl, hb⟩; obtain ⟨hcs, hz, hb'⟩ := boxc hb; clear hb) | (go_at_call 102; refine (c_Length _ _ _).mono ?_; rintro e w' ⟨rfl, rfl⟩))
   all_goals
    go_ret
    refine ⟨ret_int ?_, (by repeat (first | exact Below.refl _ _ | assumption | apply Below.drew | apply below_drewN | (refine Below.alloc ?_ (by simp; try omega) _) | (refine Below.setCell ?_ (by simp; try omega) _)))⟩
    try simp only [Bool.not_eq_true', Bool.not_eq_false', decide_eq_true_eq, decide_eq_false_iff_not] at *
    first
     | (refine (ruleE_1 HS.out (ruleN_no ?_)).symm; rintro ⟨q1, q2, q3⟩; omega)
     | (have q := dc_no (bne_iff_ne.1 (by assumption)); refine q.2.trans (ruleE_1 HS.out (ruleN_no ?_)).symm; rintro ⟨q1, q2, q3⟩; rw [q.1] at q2; exact absurd q2 (by decide))
     | (refine (ruleE_0 HS.out (ruleN_iff.2 ⟨by omega, dc_ok (bne_eq_false_iff_eq.1 (by assumption)), by omega⟩)).symm)
end Go.Proofs.YthppifcggmdmoaaGreatDoor

namespace Go.Proofs.YthppifcggmdmoaaGreatDoor
open Go.RowKit
set_option linter.unusedVariables false

set_option maxHeartbeats 400000 in
theorem r_outside (n a b : Int) (w : World) :
  Calls Tryz.prog 24 #[.int .i64 n, .int .i64 a, .int .i64 b] w fun e w' => e = .returned (.bool (decide (n < a ∨ b < n))) ∧ w = w' := by
 by_cases h1 : n < a
 ·go_enter Tryz.func24, Tryz.ntmps24
  go_wp2
  go_ret
  exact ⟨ret_bool (by simp [h1]), rfl⟩
 ·go_enter Tryz.func24, Tryz.ntmps24
  go_wp2
  go_ret
  exact ⟨ret_bool (by simp; omega), rfl⟩

set_option maxHeartbeats 400000 in
theorem r_Long (y : Int) (h : 0 ≤ y) (w : World) :
  Calls Tryz.prog 124 #[.int .i64 y] w fun e w' => e = .returned (.bool (isLongB y)) ∧ w = w' := by
 go_enter Tryz.func124, Tryz.ntmps124
 go_wp2
 all_goals (go_ret; exact ⟨ret_bool (by simp [isLongB, *] <;> omega), rfl⟩)

theorem months (f : Int) (y m : Int) (h1 : 1 ≤ m) (h2 : m ≤ 12) (hf : f = 28 + longN y) :
  ([Value.int .i64 31, .int .i64 f, .int .i64 31, .int .i64 30, .int .i64 31, .int .i64 30, .int .i64 31, .int .i64 31, .int .i64 30, .int .i64 31, .int .i64 30, .int .i64 31] : List Value)[m.toNat - 1]? = some (.int .i64 (lenM y m)) := by
 have : m = 1 ∨ m = 2 ∨ m = 3 ∨ m = 4 ∨ m = 5 ∨ m = 6 ∨ m = 7 ∨ m = 8 ∨ m = 9 ∨ m = 10 ∨ m = 11 ∨ m = 12 := by omega
 rcases this with h | h | h | h | h | h | h | h | h | h | h | h <;> subst h <;> simp [lenM, hf]
set_option maxHeartbeats 1000000 in
theorem r_Length_yes (y m : Int) (h : lenOk y m = true) (w : World) :
  Calls Tryz.prog 73 #[.int .i64 y, .int .i64 m] w fun e w' => e = .returned (.tuple #[.int .i64 (lenM y m), .int .i64 0]) ∧ Below w.heap.size w w' := by
 obtain ⟨hb1, hb2, hb3, hb4⟩ := lenOk_iff.1 h
 clear h
 have o1 : decide (y < 1600 ∨ 2399 < y) = false := by simp; omega
 have o2 : decide (m < 1 ∨ 12 < m) = false := by simp; omega
 by_cases hl : isLongB y = true
 ·have hm := months 29 y m hb3 hb4 (by rw [longN, if_pos hl]; rfl)
  go_enter Tryz.func73, Tryz.ntmps73
  go_wp2_with (first | (go_at_call 24; refine (r_outside _ _ _ _).mono ?_; rintro e w' ⟨rfl, rfl⟩) | (go_at_call 124; refine (r_Long _ (by omega) _).mono ?_; rintro e w' ⟨rfl, rfl⟩))
  go_ret2
  exact ⟨rfl, by repeat (first | exact Below.refl _ _ | apply Below.drew | (refine Below.alloc ?_ (by simp) _) | (refine Below.setCell ?_ (by simp) _))⟩
 ·have hm := months 28 y m hb3 hb4 (by rw [longN, if_neg hl]; rfl)
  have hl := eq_false_of_ne_true hl
  go_enter Tryz.func73, Tryz.ntmps73
  go_wp2_with (first | (go_at_call 24; refine (r_outside _ _ _ _).mono ?_; rintro e w' ⟨rfl, rfl⟩) | (go_at_call 124; refine (r_Long _ (by omega) _).mono ?_; rintro e w' ⟨rfl, rfl⟩))
  go_ret2
  exact ⟨rfl, by repeat (first | exact Below.refl _ _ | apply Below.drew | (refine Below.alloc ?_ (by simp) _) | (refine Below.setCell ?_ (by simp) _))⟩
set_option maxHeartbeats 1000000 in
theorem r_Length_no (y m : Int) (h : lenOk y m = false) (w : World) :
  Calls Tryz.prog 73 #[.int .i64 y, .int .i64 m] w fun e w' => e = .returned (.tuple #[.int .i64 0, .int .i64 1]) ∧ w = w' := by
 have hb := lenOk_no.1 h
 clear h
 by_cases hy : y < 1600 ∨ 2399 < y
 ·have o1 : decide (y < 1600 ∨ 2399 < y) = true := by simpa using hy
  clear hy hb
  go_enter Tryz.func73, Tryz.ntmps73
  go_wp2_with (first | (go_at_call 24; refine (r_outside _ _ _ _).mono ?_; rintro e w' ⟨rfl, rfl⟩))
  go_ret2
  exact ⟨rfl, rfl⟩
 ·have o1 : decide (y < 1600 ∨ 2399 < y) = false := by simpa using hy
  have o2 : decide (m < 1 ∨ 12 < m) = true := by simp; omega
  clear hy hb
  go_enter Tryz.func73, Tryz.ntmps73
  go_wp2_with (first | (go_at_call 24; refine (r_outside _ _ _ _).mono ?_; rintro e w' ⟨rfl, rfl⟩))
  go_ret2
  exact ⟨rfl, rfl⟩
theorem r_Length (y m : Int) (w : World) :
  Calls Tryz.prog 73 #[.int .i64 y, .int .i64 m] w fun e w' => e = .returned (.tuple #[.int .i64 (lenV y m), .int .i64 (lenE y m)]) ∧ Below w.heap.size w w' := by
 by_cases h : lenOk y m = true
 ·rw [lenV_ok h, lenE_ok h]; exact r_Length_yes y m h w
 ·have h := eq_false_of_ne_true h
  rw [lenV_no h, lenE_no h]
  refine (r_Length_no y m h w).mono ?_
  rintro e w' ⟨rfl, rfl⟩; exact ⟨rfl, Below.refl _ _⟩

set_option maxHeartbeats 1000000 in
theorem r_yearDay_late (y : Int) (h1 : 1970 ≤ y) (h2 : y ≤ 2500) (w : World) :
  Calls Tryz.prog 74 #[.int .i64 y] w fun e w' => e = .returned (.int .i64 (yd y)) ∧ w = w' := by
 go_enter Tryz.func74, Tryz.ntmps74
 go_wp2_with fail
 go_loop [3, 4] (fun n i => ∃ k : Int, 1970 ≤ k ∧ k ≤ y ∧ i = .int .i64 k ∧ n = .int .i64 (yd k)) (fun _ i => (y - intOf i).toNat)
 case atStart => exact ⟨1970, by omega, by omega, rfl, rfl⟩
 case round =>
  obtain ⟨k, hk1, hk2, rfl, rfl⟩ := hrel
  have hb := yd_bd k (by omega) (by omega)
  obtain ⟨hb1, hb2⟩ := hb
  have hs := Lib.hid (yd_succ k)
  by_cases hlt : k < y
  ·by_cases hl : isLongB k = true
   ·have hN : longN k = 1 := by rw [longN, if_pos hl]
    have HN := Lib.hid hN; clear hN
    go_wp2_with (first | (go_at_call 124; refine (r_Long _ (by omega) _).mono ?_; rintro e w' ⟨rfl, rfl⟩))
    go_round
    case rel => exact ⟨k + 1, by omega, by omega, rfl, by rw [hs.out, HN.out]⟩
    case measure => simp [intOf]; omega
   ·have hN : longN k = 0 := by rw [longN, if_neg hl]
    have HN := Lib.hid hN; clear hN
    have hl := eq_false_of_ne_true hl
    go_wp2_with (first | (go_at_call 124; refine (r_Long _ (by omega) _).mono ?_; rintro e w' ⟨rfl, rfl⟩))
    go_round
    case rel => exact ⟨k + 1, by omega, by omega, rfl, by rw [hs.out, HN.out, Int.add_zero]⟩
    case measure => simp [intOf]; omega
  ·have hy : k = y := by omega
   have HY := Lib.hid hy; clear hy
   go_wp2_with fail
   go_loop [3, 5] (fun n i => n = .int .i64 (yd k) ∧ i = .int .i64 y) (fun _ i => 0)
   case atStart => exact ⟨rfl, rfl⟩
   case round =>
    obtain ⟨rfl, rfl⟩ := hrel
    go_wp2_with fail
    go_ret
    exact ⟨by rw [HY.out]; rfl, rfl⟩
set_option maxHeartbeats 1000000 in
theorem r_yearDay_early (y : Int) (h1 : 1500 ≤ y) (h2 : y < 1970) (w : World) :
    Calls Tryz.prog 74 #[.int .i64 y] w fun e w' => e = .returned (.int .i64 (yd y)) ∧ w = w' := by
  have hby := yd_bd y (by omega) (by omega)
  obtain ⟨hby1, hby2⟩ := hby
  go_enter Tryz.func74, Tryz.ntmps74
  go_wp2_with fail
  go_loop [3, 4] (fun n i => n = .int .i64 0 ∧ i = .int .i64 1970) (fun _ i => 0)
  case atStart => exact ⟨rfl, rfl⟩
  case round =>
    obtain ⟨rfl, rfl⟩ := hrel
    go_wp2_with fail
    go_loop [3, 5] (fun n i => ∃ k : Int, y ≤ k ∧ k ≤ 1970 ∧ i = .int .i64 k ∧ n = .int .i64 (yd y - yd k)) (fun _ i => (1970 - intOf i).toNat)
    case atStart => exact ⟨y, by omega, by omega, rfl, by rw [Int.sub_self]⟩
    case round =>
      obtain ⟨k, hk1, hk2, rfl, rfl⟩ := hrel
      have hb := yd_bd k (by omega) (by omega)
      obtain ⟨hb1, hb2⟩ := hb
      have hs := Lib.hid (yd_succ k)
      by_cases hlt : k < 1970
      · by_cases hl : isLongB k = true
        · have hN : longN k = 1 := by rw [longN, if_pos hl]
          have HN := Lib.hid hN; clear hN
          go_wp2_with (first | (go_at_call 124; refine (r_Long _ (by omega) _).mono ?_; rintro e w' ⟨rfl, rfl⟩))
          go_round
          case rel => exact ⟨k + 1, by omega, by omega, rfl, congrArg _ (by rw [hs.out, HN.out]; omega)⟩
          case measure => simp [intOf]; omega
        · have hN : longN k = 0 := by rw [longN, if_neg hl]
          have HN := Lib.hid hN; clear hN
          have hl := eq_false_of_ne_true hl
          go_wp2_with (first | (go_at_call 124; refine (r_Long _ (by omega) _).mono ?_; rintro e w' ⟨rfl, rfl⟩))
          go_round
          case rel => exact ⟨k + 1, by omega, by omega, rfl, congrArg _ (by rw [hs.out, HN.out]; omega)⟩
          case measure => simp [intOf]; omega
      · obtain rfl : k = 1970 := by omega
        go_wp2_with fail
        go_ret
        exact ⟨ret_int (by have : yd 1970 = 0 := by decide
                           omega), rfl⟩
theorem r_yearDay (y : Int) (h1 : 1500 ≤ y) (h2 : y ≤ 2500) (w : World) :
  Calls Tryz.prog 74 #[.int .i64 y] w fun e w' => e = .returned (.int .i64 (yd y)) ∧ w = w' := by
 by_cases h : 1970 ≤ y
 ·exact r_yearDay_late y h h2 w
 ·exact r_yearDay_early y h1 (by omega) w

set_option maxHeartbeats 1000000 in
theorem r_Days_yes (y m d : Int) (h : dayOk y m d = true) (w : World) :
  Calls Tryz.prog 41 #[.int .i64 y, .int .i64 m, .int .i64 d] w fun e w' => e = .returned (.tuple #[.int .i64 (daysN y m d), .int .i64 0]) ∧ Below w.heap.size w w' := by
 obtain ⟨hb1, hb2, hb3, hb4, hb5, hb6⟩ := dayOk_iff.1 h
 clear h
 have hl := lenOk_iff.2 ⟨hb1, hb2, hb3, hb4⟩
 have Hl := Lib.hid hl; clear hl
 have hE := lenE_ok Hl.out
 have hV := lenV_ok Hl.out
 obtain ⟨hbd1, hbd2⟩ := lenM_bd y m
 have o1 : decide (d < 1 ∨ lenM y m < d) = false := by simp; omega
 obtain ⟨z1, z2⟩ := yd_bd y (by omega) (by omega)
 go_enter Tryz.func41, Tryz.ntmps41
 go_wp2_with (first | (go_at_call 73; refine (r_Length _ _ _).mono ?_; rintro e w1 ⟨rfl, hbw⟩) | (go_at_call 24; refine (r_outside _ _ _ _).mono ?_; rintro e w' ⟨rfl, rfl⟩) | (go_at_call 74; refine (r_yearDay _ (by omega) (by omega) _).mono ?_; rintro e w' ⟨rfl, rfl⟩))
 clear o1 hE hV
 go_loopw [10, 11, 12, 13] (fun n k _ _ wr => ∃ j : Int, 1 ≤ j ∧ j ≤ m ∧ k = .int .i64 j ∧ n = .int .i64 (yd y + cum y j + d - 1) ∧ Below w.heap.size w wr) (fun _ k _ _ _ => (m - intOf k).toNat)
 case atStart => exact ⟨1, by omega, by omega, rfl, by rw [cum_one, Int.add_zero], hbw⟩
 case round =>
  obtain ⟨j, hj1, hj2, rfl, rfl, hbr⟩ := hrel
  have cs := Lib.hid (cum_succ y j hj1 (by omega))
  obtain ⟨cb1, cb2⟩ := cum_bd y j hj1 (by omega)
  obtain ⟨lb1, lb2⟩ := lenM_bd y j
  by_cases hlt : j < m
  ·have hE := lenE_ok (lenOk_iff.2 ⟨hb1, hb2, hj1, by omega⟩ : lenOk y j = true)
   have hV := lenV_ok (lenOk_iff.2 ⟨hb1, hb2, hj1, by omega⟩ : lenOk y j = true)
   go_wp2_with (first | (go_at_call 73; refine (r_Length _ _ _).mono ?_; rintro e w2 ⟨rfl, hbw2⟩))
   go_roundw
   case rel => exact ⟨j + 1, by omega, by omega, rfl, congrArg _ (by rw [cs.out]; omega), hbr.trans (hbw2.mono hbr.size)⟩
   case measure => simp [intOf]; omega
  ·obtain rfl : j = m := by omega
   go_wp2_with fail
   go_ret2
   exact ⟨rfl, hbr⟩

theorem tmod_fact' (a b : Int) (h : 0 < b) : ∃ q, a = b * q + a.tmod b ∧ -b < a.tmod b ∧ a.tmod b < b ∧ (0 ≤ a → 0 ≤ a.tmod b) ∧ (a ≤ 0 → a.tmod b ≤ 0) := by
 refine ⟨a.tdiv b, (Int.mul_tdiv_add_tmod a b).symm, ?_, Int.tmod_lt_of_pos a h, fun h0 => Int.tmod_nonneg b h0, ?_⟩
 ·have := Int.lt_tmod_of_pos a h; omega
 ·intro h0
  have := Int.tmod_nonneg b (show 0 ≤ -a by omega)
  rw [Int.neg_tmod] at this; omega
end Go.Proofs.YthppifcggmdmoaaGreatDoor

