/- Walk of the reference's Stamp. -/
import Derived.Test.YtelgehpfjpbboaaDoorStR
import Derived.Test.YtelgehpfjpbboaaDoorSpR
import Derived.Test.YtelgehpfjpbboaaDoorCivR
namespace Go.Proofs.YtelgehpfjpbboaaDoor
open Go.RowKit
set_option linter.unusedVariables false
set_option maxRecDepth 100000 in
set_option maxHeartbeats 4000000 in
theorem r_Stamp_ok (t : Int) (h : dateOk (t / 86400) = true) (w : World) :
    Calls Tryd.prog 14 #[.int .i64 t] w fun e w' => e = .returned (.tuple #[.string (stT (dYear (t / 86400)).toNat (dMon (t / 86400)).toNat (dDay (t / 86400)).toNat (t % 86400).toNat), .int .i64 0]) ∧ Below w.heap.size w w' := by
  have hB : Below w.heap.size w w := Below.refl _ _
  obtain ⟨⟨y, hy, y1, y2⟩, ⟨m, hm, m1⟩, ⟨d, hd, d1⟩⟩ := date_nat h
  rw [hy, hm, hd]
  rw [show ((y : Int)).toNat = y from rfl, show ((m : Int)).toNat = m from rfl, show ((d : Int)).toNat = d from rfl]
  have hn := dateOk_iff.1 h
  obtain ⟨r, hr, hr2⟩ : ∃ r : Nat, t % 86400 = r ∧ r < 86400 := ⟨(t % 86400).toNat, by omega, by omega⟩
  rw [hr, show ((r : Int)).toNat = r from rfl]
  obtain ⟨n, hN⟩ : ∃ n, t / 86400 = n := ⟨_, rfl⟩
  rw [hN] at hy hm hd h hn
  obtain ⟨a, ha⟩ : ∃ a, r / 3600 = a := ⟨_, rfl⟩
  obtain ⟨b, hb⟩ : ∃ b, r / 60 % 60 = b := ⟨_, rfl⟩
  obtain ⟨c, hc⟩ : ∃ c, r % 60 = c := ⟨_, rfl⟩
  obtain ⟨q, hq⟩ : ∃ q, r / 60 = q := ⟨_, rfl⟩
  have e1 : ((r : Int)).tdiv 3600 = (a : Int) := by rw [Int.tdiv_eq_ediv_of_nonneg (by omega)]; omega
  have e2 : ((r : Int)).tdiv 60 = (q : Int) := by rw [Int.tdiv_eq_ediv_of_nonneg (by omega)]; omega
  have e3 : ((q : Int)).tmod 60 = (b : Int) := by rw [Int.tmod_eq_emod_of_nonneg (by omega)]; omega
  have e4 : ((r : Int)).tmod 60 = (c : Int) := by rw [Int.tmod_eq_emod_of_nonneg (by omega)]; omega
  have e5 : ((r : Int)) / 3600 = (a : Int) := by omega
  have e6 : ((r : Int)) / 60 = (q : Int) := by omega
  have e7 : ((q : Int)) % 60 = (b : Int) := by omega
  have e8 : ((r : Int)) % 60 = (c : Int) := by omega
  have hl : (Lib.decDigits y).length = 4 := dec_len4 (by omega) (by omega)
  have tw : ∀ k, (twoB k).size = 2 := fun _ => rfl
  have hA := Lib.hid (show a < 100 by omega)
  have hBb := Lib.hid (show b < 100 by omega)
  have hCc := Lib.hid (show c < 100 by omega)
  have hMm := Lib.hid m1
  have hDd := Lib.hid d1
  have HD := Lib.hid h
  rw [stT, ha, hb, hc]
  rw [show digB y = ⟨(Lib.decDigits y).toArray⟩ from rfl]
  obtain ⟨hn1, hn2⟩ := hn
  obtain ⟨X, hX⟩ : ∃ X, t - (r : Int) = X := ⟨_, rfl⟩
  obtain ⟨hX3, hX4⟩ : -20000000000 ≤ X ∧ X ≤ 20000000000 := by omega
  have hX2 : X = 86400 * n := by omega
  have hXn : X.tdiv 86400 = n := by rw [hX2, Int.mul_tdiv_cancel_left _ (by omega)]
  have HR := Lib.hid (fun w => r_Rest2 t (by omega) (by omega) w)
  have HY := Lib.hid (fun w => r_fixed4 y (by omega) (by omega) w)
  clear ha hb hc hq h m1 d1 hr2 hX2 hN
  go_enter Tryd.func14, Tryd.ntmps14
  go_wp2_with fail
  refine (HR.out _).mono ?_
  rintro e w1 ⟨rfl, rfl⟩
  go_wp2_with fail
  refine (r_Date_yes n HD.out _).mono ?_
  rintro e w2 ⟨rfl, hb⟩
  replace hB := hB.trans (hb.mono hB.size)
  clear hb
  go_wp2_with fail
  refine (HY.out _).mono ?_
  rintro e ww ⟨rfl, hb⟩
  replace hB := hB.trans (hb.mono hB.size)
  clear hb
  go_wp2_with fail
  refine (r_fixed m hMm.out _).mono ?_
  rintro e ww ⟨rfl, hb⟩
  replace hB := hB.trans (hb.mono hB.size)
  clear hb
  go_wp2_with fail
  refine (r_fixed d hDd.out _).mono ?_
  rintro e ww ⟨rfl, hb⟩
  replace hB := hB.trans (hb.mono hB.size)
  clear hb
  go_wp2_with fail
  refine (r_fixed a hA.out _).mono ?_
  rintro e ww ⟨rfl, hb⟩
  replace hB := hB.trans (hb.mono hB.size)
  clear hb
  go_wp2_with fail
  refine (r_fixed b hBb.out _).mono ?_
  rintro e ww ⟨rfl, hb⟩
  replace hB := hB.trans (hb.mono hB.size)
  clear hb
  go_wp2_with fail
  refine (r_fixed c hCc.out _).mono ?_
  rintro e ww ⟨rfl, hb⟩
  replace hB := hB.trans (hb.mono hB.size)
  clear hb
  go_wp2_with fail
  go_ret2
  exact ⟨rfl, hB⟩
end Go.Proofs.YtelgehpfjpbboaaDoor
