/- Walk of the reference's Stamp. Walk of the reference's Stamp. Walk of the reference's Stamp. Walk of the reference's Stamp. -/
import Derived.Test.YtoakagkphkgcdaaGreatDoorPln
import Derived.Test.YtoakagkphkgcdaaGreatDoorSpR
import Derived.Test.YtoakagkphkgcdaaGreatDoorCivR
namespace Go.Proofs.YtoakagkphkgcdaaGreatDoor
open Go.RowKit
set_option linter.unusedVariables false
set_option maxHeartbeats 1000000 in
theorem r_Rest2 (n : Int) (h1 : -9223372036854775808 ≤ n) (h2 : n ≤ 9223372036854775807) (w : World) :
    Calls Tryz.prog 81 #[.int .i64 n, .int .i64 86400] w fun e w' => e = .returned (.int .i64 (n % 86400)) ∧ w = w' := by
  obtain ⟨q, t1, t2, t3, t4, t5⟩ := tmod_fact' n 86400 (by omega)
  obtain ⟨t, ht⟩ : ∃ t, n.tmod 86400 = t := ⟨_, rfl⟩
  rw [ht] at t1 t2 t3 t4 t5
  by_cases hc : t < 0
  · have HV : Hid (n % 86400 = t + 86400) := Lib.hid (by omega)
    rw [HV.out]
    have hn : n < 0 := by by_cases hx : n < 0; exact hx; have := t4 (by omega); omega
    clear HV t1 t4 t5
    go_enter Tryz.func81, Tryz.ntmps81
    go_wp2
    go_ret
    exact ⟨rfl, rfl⟩
  · have HV : Hid (n % 86400 = t) := Lib.hid (by omega)
    by_cases hn : 0 ≤ n
    · have e2 : n % 86400 = t := HV.out
      clear HV t1 t4 t5 ht
      go_enter Tryz.func81, Tryz.ntmps81
      go_wp2
      go_ret
      exact ⟨rfl, rfl⟩
    · rw [HV.out]
      clear HV t1 t4 t5
      go_enter Tryz.func81, Tryz.ntmps81
      go_wp2
      go_ret
      exact ⟨rfl, rfl⟩
set_option maxRecDepth 100000 in
set_option maxHeartbeats 1000000 in
theorem r_fixed4 (n : Nat) (h : 1000 ≤ n) (h2 : n < 10000) (w : World) :
    Calls Tryz.prog 80 #[.int .i64 n, .int .i64 4] w fun e w' => e = .returned (.string ⟨(Lib.decDigits n).toArray⟩) ∧ Below w.heap.size w w' := by
  have hl := dec_len4 h h2
  have HD := Lib.hid (fun w => r_Digits n (by omega) w)
  clear h h2
  go_enter Tryz.func80, Tryz.ntmps80
  go_wp2_with fail
  refine (HD.out _).mono ?_
  rintro e w1 ⟨rfl, hb⟩
  go_wp2_with fail
  go_loop [5] (fun s => s = .string ⟨(Lib.decDigits n).toArray⟩) (fun s => 0)
  case atStart => exact rfl
  case round =>
    obtain rfl := hrel
    go_wp2_with fail
    go_ret
    exact ⟨rfl, hb⟩
end Go.Proofs.YtoakagkphkgcdaaGreatDoor
namespace Go.Proofs.YtoakagkphkgcdaaGreatDoor
open Go.RowKit
set_option linter.unusedVariables false
theorem wrap_far (t r : Int) (h1 : -9223372036854775808 ≤ t) (h2 : t < -9223372036854000000) (hr : 0 ≤ r ∧ r < 86400) : (IntKind.i64.wrap (t - r) < -9000000000000000000 ∨ 9000000000000000000 < IntKind.i64.wrap (t - r)) ∧ -9223372036854775808 ≤ IntKind.i64.wrap (t - r) ∧ IntKind.i64.wrap (t - r) ≤ 9223372036854775807 := by
  by_cases h : -9223372036854775808 ≤ t - r
  · rw [IntWalk.i64_in _ (by omega)]; omega
  · rw [IntKind.wrap_i64]; omega
set_option maxRecDepth 100000 in
set_option maxHeartbeats 2000000 in
theorem r_Stamp_no (t : Int) (h1 : -9223372036854775808 ≤ t) (h2 : t ≤ 9223372036854775807) (h : dateOk (t / 86400) = false) (w : World) :
    Calls Tryz.prog 39 #[.int .i64 t] w fun e w' => e = .returned (.tuple #[.string ⟨#[]⟩, .int .i64 1]) ∧ Below w.heap.size w w' := by
  have hB : Below w.heap.size w w := Below.refl _ _
  have HR := Lib.hid (fun w => r_Rest2 t h1 h2 w)
  have hn := dateOk_no.1 h
  obtain ⟨r, hr, hr1, hr2⟩ : ∃ r, t % 86400 = r ∧ 0 ≤ r ∧ r < 86400 := ⟨_, rfl, by omega, by omega⟩
  by_cases hfar : t < -9223372036854000000
  · have hx := wrap_far t r h1 hfar ⟨hr1, hr2⟩
    obtain ⟨X, hX⟩ : ∃ X, IntKind.i64.wrap (t - r) = X := ⟨_, rfl⟩
    rw [hX] at hx
    obtain ⟨D, hD⟩ : ∃ D, X.tdiv 86400 = D := ⟨_, rfl⟩
    have hxx := Int.mul_tdiv_add_tmod X 86400
    obtain ⟨q0, t1, t2, t3, t4, t5⟩ := tmod_fact' X 86400 (by omega)
    rw [hD] at hxx
    have hdD : ¬ (-135140 ≤ D ∧ D ≤ 157053) := by omega
    have hd : dateOk D = false := dateOk_no.2 hdD
    obtain ⟨hDb1, hDb2⟩ : -200000000000000 ≤ D ∧ D ≤ 200000000000000 := by omega
    clear hdD
    have HD := Lib.hid (fun w => r_Date_no D hd w)
    clear hd hxx t1 t2 t3 t4 t5 hx h hn
    go_enter Tryz.func39, Tryz.ntmps39
    go_wp2_with fail
    refine (HR.out _).mono ?_
    rintro e w1 ⟨rfl, rfl⟩
    go_wp2_with fail
    refine (HD.out _).mono ?_
    rintro e w2 ⟨rfl, rfl⟩
    go_wp2_with fail
    go_ret2
    exact ⟨rfl, hB⟩
  · obtain ⟨X, hX⟩ : ∃ X, t - r = X := ⟨_, rfl⟩
    obtain ⟨D, hD⟩ : ∃ D, X.tdiv 86400 = D := ⟨_, rfl⟩
    have hD2 : D = t / 86400 := by
      have h0 : X = 86400 * (t / 86400) := by omega
      rw [← hD, h0, Int.mul_tdiv_cancel_left _ (by omega)]
    obtain ⟨hDb1, hDb2⟩ : -200000000000000 ≤ D ∧ D ≤ 200000000000000 := by rw [hD2]; omega
    have HD := Lib.hid (fun w => r_Date_no D (by rw [hD2]; exact h) w)
    clear h hn hD2
    go_enter Tryz.func39, Tryz.ntmps39
    go_wp2_with fail
    refine (HR.out _).mono ?_
    rintro e w1 ⟨rfl, rfl⟩
    go_wp2_with fail
    refine (HD.out _).mono ?_
    rintro e w2 ⟨rfl, rfl⟩
    go_wp2_with fail
    go_ret2
    exact ⟨rfl, hB⟩
end Go.Proofs.YtoakagkphkgcdaaGreatDoor
namespace Go.Proofs.YtoakagkphkgcdaaGreatDoor
open Go.RowKit
set_option linter.unusedVariables false
set_option maxRecDepth 100000 in
set_option maxHeartbeats 4000000 in
theorem r_Stamp_ok (t : Int) (h : dateOk (t / 86400) = true) (w : World) :
    Calls Tryz.prog 39 #[.int .i64 t] w fun e w' => e = .returned (.tuple #[.string (stT (dYear (t / 86400)).toNat (dMon (t / 86400)).toNat (dDay (t / 86400)).toNat (t % 86400).toNat), .int .i64 0]) ∧ Below w.heap.size w w' := by
  have hB : Below w.heap.size w w := Below.refl _ _
  obtain ⟨⟨y, hy, y1, y2⟩, ⟨m, hm, m1⟩, ⟨d, hd, d1⟩⟩ := date_nat h
  rw [hy, hm, hd]
  rw [show ((y : Int)).toNat = y from rfl, show ((m : Int)).toNat = m from rfl, show ((d : Int)).toNat = d from rfl]
  have hn := dateOk_iff.1 h
  obtain ⟨r, hr, hr2⟩ : ∃ r : Nat, t % 86400 = r ∧ r < 86400 := ⟨(t % 86400).toNat, by omega, by omega⟩
  rw [hr, show ((r : Int)).toNat = r from rfl]
  obtain ⟨n, hN⟩ : ∃ n, t / 86400 = n := ⟨_, rfl⟩
  rw [hN] at hy hm hd h hn
  obtain ⟨a, ha⟩ : ∃ a, r / 3600 = a := ⟨_, rfl⟩
  obtain ⟨b, hb⟩ : ∃ b, r / 60 % 60 = b := ⟨_, rfl⟩
  obtain ⟨c, hc⟩ : ∃ c, r % 60 = c := ⟨_, rfl⟩
  obtain ⟨q, hq⟩ : ∃ q, r / 60 = q := ⟨_, rfl⟩
  have e1 : ((r : Int)).tdiv 3600 = (a : Int) := by rw [Int.tdiv_eq_ediv_of_nonneg (by omega)]; omega
  have e2 : ((r : Int)).tdiv 60 = (q : Int) := by rw [Int.tdiv_eq_ediv_of_nonneg (by omega)]; omega
  have e3 : ((q : Int)).tmod 60 = (b : Int) := by rw [Int.tmod_eq_emod_of_nonneg (by omega)]; omega
  have e4 : ((r : Int)).tmod 60 = (c : Int) := by rw [Int.tmod_eq_emod_of_nonneg (by omega)]; omega
  have e5 : ((r : Int)) / 3600 = (a : Int) := by omega
  have e6 : ((r : Int)) / 60 = (q : Int) := by omega
  have e7 : ((q : Int)) % 60 = (b : Int) := by omega
  have e8 : ((r : Int)) % 60 = (c : Int) := by omega
  have hl : (Lib.decDigits y).length = 4 := dec_len4 (by omega) (by omega)
  have tw : ∀ k, (twoB k).size = 2 := fun _ => rfl
  have hA := Lib.hid (show a < 100 by omega)
  have hBb := Lib.hid (show b < 100 by omega)
  have hCc := Lib.hid (show c < 100 by omega)
  have hMm := Lib.hid m1
  have hDd := Lib.hid d1
  have HD := Lib.hid h
  rw [stT, ha, hb, hc]
  rw [show digB y = ⟨(Lib.decDigits y).toArray⟩ from rfl]
  obtain ⟨hn1, hn2⟩ := hn
  obtain ⟨X, hX⟩ : ∃ X, t - (r : Int) = X := ⟨_, rfl⟩
  obtain ⟨hX3, hX4⟩ : -20000000000 ≤ X ∧ X ≤ 20000000000 := by omega
  have hX2 : X = 86400 * n := by omega
  have hXn : X.tdiv 86400 = n := by rw [hX2, Int.mul_tdiv_cancel_left _ (by omega)]
  have HR := Lib.hid (fun w => r_Rest2 t (by omega) (by omega) w)
  have HY := Lib.hid (fun w => r_fixed4 y (by omega) (by omega) w)
  clear ha hb hc hq h m1 d1 hr2 hX2 hN
  go_enter Tryz.func39, Tryz.ntmps39
  go_wp2_with fail
  refine (HR.out _).mono ?_
  rintro e w1 ⟨rfl, rfl⟩
  go_wp2_with fail
  refine (r_Date_yes n HD.out _).mono ?_
  rintro e w2 ⟨rfl, hb⟩
  replace hB := hB.trans (hb.mono hB.size)
  clear hb
  go_wp2_with fail
  refine (HY.out _).mono ?_
  rintro e ww ⟨rfl, hb⟩
  replace hB := hB.trans (hb.mono hB.size)
  clear hb
  go_wp2_with fail
  refine (r_fixed m hMm.out _).mono ?_
  rintro e ww ⟨rfl, hb⟩
  replace hB := hB.trans (hb.mono hB.size)
  clear hb
  go_wp2_with fail
  refine (r_fixed d hDd.out _).mono ?_
  rintro e ww ⟨rfl, hb⟩
  replace hB := hB.trans (hb.mono hB.size)
  clear hb
  go_wp2_with fail
  refine (r_fixed a hA.out _).mono ?_
  rintro e ww ⟨rfl, hb⟩
  replace hB := hB.trans (hb.mono hB.size)
  clear hb
  go_wp2_with fail
  refine (r_fixed b hBb.out _).mono ?_
  rintro e ww ⟨rfl, hb⟩
  replace hB := hB.trans (hb.mono hB.size)
  clear hb
  go_wp2_with fail
  refine (r_fixed c hCc.out _).mono ?_
  rintro e ww ⟨rfl, hb⟩
  replace hB := hB.trans (hb.mono hB.size)
  clear hb
  go_wp2_with fail
  go_ret2
  exact ⟨rfl, hB⟩
end Go.Proofs.YtoakagkphkgcdaaGreatDoor
namespace Go.Proofs.YtoakagkphkgcdaaGreatDoor
open Go.RowKit
set_option linter.unusedVariables false
theorem r_Stamp (t : Int) (h1 : -9223372036854775808 ≤ t) (h2 : t ≤ 9223372036854775807) (w : World) :
    Calls Tryz.prog 39 #[.int .i64 t] w fun e w' => e = .returned (.tuple #[.string (stV t), .int .i64 (stE t)]) ∧ Below w.heap.size w w' := by
  cases h : dateOk (t / 86400) with
  | false => rw [(st_no h).1, (st_no h).2]; exact r_Stamp_no t h1 h2 h w
  | true => rw [(st_ok h).1, (st_ok h).2]; exact r_Stamp_ok t h w
end Go.Proofs.YtoakagkphkgcdaaGreatDoor
