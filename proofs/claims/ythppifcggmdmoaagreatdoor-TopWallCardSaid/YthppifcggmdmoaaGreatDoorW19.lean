/- Part 19 of the proof of TopWall: no condition; what its declarations say stands at each. -/
import Derived.Test.YthppifcggmdmoaaGreatDoorW03
import Derived.Test.YthppifcggmdmoaaGreatDoorW07
import Derived.Test.YthppifcggmdmoaaGreatDoorW16
import Derived.Test.YthppifcggmdmoaaGreatDoorW18
namespace Go.Proofs.YthppifcggmdmoaaGreatDoor
open Go.RowKit
set_option linter.unusedVariables false
set_option maxHeartbeats 1000000 in
theorem k_Floor (t : Int) (h1 : -9223372036854775808 ≤ t) (h2 : t ≤ 9223372036854775807) (w : World) :
  Calls Tryz.prog 40 #[.int .i64 t, .int .i64 86400] w fun e w' => e = .returned (.tuple #[.int .i64 (t / 86400), .int .i64 (t % 86400)]) ∧ Below w.heap.size w w' := by
 have hB : Below w.heap.size w w := Below.refl _ _
 obtain ⟨q0, t1, t2, t3, t4, t5⟩ := tmod_fact' t 86400 (by omega)
 obtain ⟨r, hr⟩ : ∃ r, t.tmod 86400 = r := ⟨_, rfl⟩
 obtain ⟨q, hq⟩ : ∃ q, t.tdiv 86400 = q := ⟨_, rfl⟩
 have t6 := Int.mul_tdiv_add_tmod t 86400
 rw [hr] at t1 t2 t3 t4 t5 t6
 rw [hq] at t6
 have hq1 : -200000000000000 ≤ q ∧ q ≤ 200000000000000 := by omega
 obtain ⟨hq1, hq2⟩ := hq1
 by_cases hc : r < 0
 ·have HV : Hid (t / 86400 = q - 1 ∧ t % 86400 = r + 86400) := Lib.hid (by omega)
  rw [HV.out.1, HV.out.2]
  clear HV t1 t4 t5 t6
  go_enter Tryz.func40, Tryz.ntmps40
  go_wp2_with fail
  go_quiet (fail)
  go_wp2_with fail
  go_ret2
  exact ⟨rfl, below_drewN hB _⟩
 ·have HV : Hid (t / 86400 = q ∧ t % 86400 = r) := Lib.hid (by omega)
  rw [HV.out.1, HV.out.2]
  clear HV t1 t4 t5 t6
  go_enter Tryz.func40, Tryz.ntmps40
  go_wp2_with fail
  go_quiet (fail)
  go_wp2_with fail
  go_ret2
  exact ⟨rfl, below_drewN hB _⟩
set_option maxRecDepth 100000 in
set_option maxHeartbeats 2000000 in
theorem k_Stamp_no (t : Int) (h1 : -9223372036854775808 ≤ t) (h2 : t ≤ 9223372036854775807) (h : dateOk (t / 86400) = false) (w : World) :
  Calls Tryz.prog 44 #[.int .i64 t] w fun e w' => e = .returned (.tuple #[.string ⟨#[]⟩, .int .i64 1]) ∧ Below w.heap.size w w' := by
 have HD := Lib.hid (fun w => c_Date_no (t / 86400) h w)
 clear h
 go_enter Tryz.func44, Tryz.ntmps44
 go_wp2_with fail
 refine (k_Floor t h1 h2 _).mono ?_
 rintro e w1 ⟨rfl, hb⟩
 go_wp2_with fail
 refine (HD.out _).mono ?_
 rintro e w2 ⟨rfl, rfl⟩
 go_wp2_with fail
 go_ret2
 exact ⟨rfl, hb⟩
set_option maxRecDepth 100000 in
set_option maxHeartbeats 4000000 in
theorem k_Stamp_ok (t : Int) (h : dateOk (t / 86400) = true) (w : World) (HI : ∀ y : Nat, y < 10000 → ItoaIn w y) :
  Calls Tryz.prog 44 #[.int .i64 t] w fun e w' => e = .returned (.tuple #[.string (stT (dYear (t / 86400)).toNat (dMon (t / 86400)).toNat (dDay (t / 86400)).toNat (t % 86400).toNat), .int .i64 0]) ∧ Below w.heap.size w w' := by
 have hB : Below w.heap.size w w := Below.refl _ _
 obtain ⟨⟨y, hy, y1, y2⟩, ⟨m, hm, m1⟩, ⟨d, hd, d1⟩⟩ := date_nat h
 rw [hy, hm, hd]
 rw [show ((y : Int)).toNat = y from rfl, show ((m : Int)).toNat = m from rfl, show ((d : Int)).toNat = d from rfl]
 have hn := dateOk_iff.1 h
 obtain ⟨r, hr, hr2⟩ : ∃ r : Nat, t % 86400 = r ∧ r < 86400 := ⟨(t % 86400).toNat, by omega, by omega⟩
 rw [hr, show ((r : Int)).toNat = r from rfl]
 obtain ⟨n, hN⟩ : ∃ n, t / 86400 = n := ⟨_, rfl⟩
 rw [hN] at hy hm hd h hn
 obtain ⟨a, ha⟩ : ∃ a, r / 3600 = a := ⟨_, rfl⟩
 obtain ⟨b, hb⟩ : ∃ b, r / 60 % 60 = b := ⟨_, rfl⟩
 obtain ⟨c, hc⟩ : ∃ c, r % 60 = c := ⟨_, rfl⟩
 obtain ⟨q, hq⟩ : ∃ q, r / 60 = q := ⟨_, rfl⟩
 have e1 : ((r : Int)).tdiv 3600 = (a : Int) := by rw [Int.tdiv_eq_ediv_of_nonneg (by omega)]; omega
 have e2 : ((r : Int)).tdiv 60 = (q : Int) := by rw [Int.tdiv_eq_ediv_of_nonneg (by omega)]; omega
 have e3 : ((q : Int)).tmod 60 = (b : Int) := by rw [Int.tmod_eq_emod_of_nonneg (by omega)]; omega
 have e4 : ((r : Int)).tmod 60 = (c : Int) := by rw [Int.tmod_eq_emod_of_nonneg (by omega)]; omega
 have e5 : ((r : Int)) / 3600 = (a : Int) := by omega
 have e6 : ((r : Int)) / 60 = (q : Int) := by omega
 have e7 : ((q : Int)) % 60 = (b : Int) := by omega
 have e8 : ((r : Int)) % 60 = (c : Int) := by omega
 have hl : (Lib.decDigits y).length = 4 := dec_len4 (by omega) (by omega)
 have tw : ∀ k, (twoB k).size = 2 := fun _ => rfl
 have hA := Lib.hid (show a < 100 by omega)
 have hBb := Lib.hid (show b < 100 by omega)
 have hCc := Lib.hid (show c < 100 by omega)
 have hMm := Lib.hid m1
 have hDd := Lib.hid d1
 have HD := Lib.hid h
 rw [stT, ha, hb, hc]
 rw [show digB y = ⟨(Lib.decDigits y).toArray⟩ from rfl]
 have HY := Lib.hid (HI y (by omega))
 have HF := Lib.hid (fun w => k_Floor t (by omega) (by omega) w)
 clear ha hb hc hq h HI m1 d1 hr2
 go_enter Tryz.func44, Tryz.ntmps44
 go_wp2_with fail
 refine (HF.out _).mono ?_
 rintro e ww ⟨rfl, hb⟩
 replace hB := hB.trans (hb.mono hB.size)
 clear hb
 go_wp2_with fail
 refine (c_Date_yes n HD.out _).mono ?_
 rintro e w2 ⟨rfl, rfl⟩
 go_wp2_with fail
 refine (HY.out _ hB).mono ?_
 rintro e ww ⟨rfl, hb⟩
 replace hB := hB.trans (hb.mono hB.size)
 clear hb
 go_wp2_with fail
 refine (k_two m hMm.out _).mono ?_
 rintro e ww ⟨rfl, hb⟩
 replace hB := hB.trans (hb.mono hB.size)
 clear hb
 go_wp2_with fail
 refine (k_two d hDd.out _).mono ?_
 rintro e ww ⟨rfl, hb⟩
 replace hB := hB.trans (hb.mono hB.size)
 clear hb
 go_wp2_with fail
 refine (k_two a hA.out _).mono ?_
 rintro e ww ⟨rfl, hb⟩
 replace hB := hB.trans (hb.mono hB.size)
 clear hb
 go_wp2_with fail
 refine (k_two b hBb.out _).mono ?_
 rintro e ww ⟨rfl, hb⟩
 replace hB := hB.trans (hb.mono hB.size)
 clear hb
 go_wp2_with fail
 refine (k_two c hCc.out _).mono ?_
 rintro e ww ⟨rfl, hb⟩
 replace hB := hB.trans (hb.mono hB.size)
 clear hb
 go_wp2_with fail
 go_ret2
 exact ⟨rfl, hB⟩
theorem k_Stamp (t : Int) (h1 : -9223372036854775808 ≤ t) (h2 : t ≤ 9223372036854775807) (w : World) (HI : ∀ y : Nat, y < 10000 → ItoaIn w y) :
  Calls Tryz.prog 44 #[.int .i64 t] w fun e w' => e = .returned (.tuple #[.string (stV t), .int .i64 (stE t)]) ∧ Below w.heap.size w w' := by
 cases h : dateOk (t / 86400) with
 | false => rw [(st_no h).1, (st_no h).2]; exact k_Stamp_no t h1 h2 h w
 | true => rw [(st_ok h).1, (st_ok h).2]; exact k_Stamp_ok t h w HI
end Go.Proofs.YthppifcggmdmoaaGreatDoor

