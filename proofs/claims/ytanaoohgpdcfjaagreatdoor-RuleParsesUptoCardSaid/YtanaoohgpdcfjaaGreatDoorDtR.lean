/- Walks of the reference's Digits, weekWord and DayText. -/
import Derived.Test.YtanaoohgpdcfjaaGreatDoorPln
import Derived.Test.YtanaoohgpdcfjaaGreatDoorDayR
import Derived.Laws.IdiomStrings
namespace Go.Proofs.YtanaoohgpdcfjaaGreatDoor
open Go.RowKit
set_option linter.unusedVariables false
theorem conv_one (w : World) (t : TypeId) (n : Int) (h0 : 0 ≤ n) (h1 : n < 256) (c : Nat) :
    (Go.convert 183 9 (.slice (some ⟨w.heap.size, 0, none⟩) 1 c)).run Tryz.prog (w.alloc (.cells #[.int .u8 n] t)) = .ok (.string ⟨#[UInt8.ofNat n.toNat]⟩) (w.alloc (.cells #[.int .u8 n] t)) := by
  have := run_convert_bytes_back (P := Tryz.prog) (w.alloc (.cells #[.int .u8 n] t)) 183 9 5 ⟨w.heap.size, 0, none⟩ c [UInt8.ofNat n.toNat] Tryz.underlying183 Tryz.underlying5 Tryz.underlying9
    (fun j hj => by
      obtain rfl : j = 0 := by simpa using hj
      show (w.alloc (.cells #[.int .u8 n] t)).cell? ⟨w.heap.size, 0, none⟩ = _
      simp; omega)
  simpa using this
set_option maxHeartbeats 1000000 in
theorem r_chrD (n : Int) (h0 : 0 ≤ n) (h1 : n < 256) (w : World) :
    Calls Tryz.prog 172 #[.int .i64 n] w fun e w' => e = .returned (.string ⟨#[UInt8.ofNat n.toNat]⟩) ∧ Below w.heap.size w w' := by
  have kc := fun (t : TypeId) (c : Nat) => conv_one w t n h0 h1 c
  go_enter Tryz.func172, Tryz.ntmps172
  go_wp2_with fail
  go_ret
  exact ⟨rfl, (by repeat (first | exact Below.refl _ _ | assumption | apply Below.drew | apply below_drewN | (refine Below.alloc ?_ (by simp; try omega) _) | (refine Below.setCell ?_ (by simp; try omega) _)))⟩
set_option maxHeartbeats 1000000 in
theorem r_Digits1 (n : Nat) (h : n < 10) (w : World) :
    Calls Tryz.prog 123 #[.int .i64 n] w fun e w' => e = .returned (.string ⟨(Lib.decDigits n).toArray⟩) ∧ Below w.heap.size w w' := by
  have HV := Lib.hid (show (⟨#[UInt8.ofNat (48 + (n : Int)).toNat]⟩ : ByteArray) = ⟨(Lib.decDigits n).toArray⟩ by rw [dig_small h]; congr 4)
  go_enter Tryz.func123, Tryz.ntmps123
  go_wp2_with (first | (go_at_call 172; refine (r_chrD _ (by omega) (by omega) _).mono ?_; rintro e w1 ⟨rfl, hb⟩))
  go_ret
  exact ⟨congrArg (fun v => Ending.returned (.string v)) HV.out, hb⟩
set_option maxHeartbeats 1000000 in
theorem r_DigitsD (n : Nat) (h : n < 100) (w : World) :
    Calls Tryz.prog 123 #[.int .i64 n] w fun e w' => e = .returned (.string ⟨(Lib.decDigits n).toArray⟩) ∧ Below w.heap.size w w' := by
  by_cases h1 : n < 10
  · exact r_Digits1 n h1 w
  · have HV := Lib.hid (digits_two h1)
    obtain ⟨q, hq⟩ : ∃ q, n / 10 = q := ⟨_, rfl⟩
    obtain ⟨r, hr⟩ : ∃ r, n % 10 = r := ⟨_, rfl⟩
    rw [hq, hr] at HV
    have e1 : ((n : Int)).tdiv 10 = (q : Int) := by rw [Int.tdiv_eq_ediv_of_nonneg (by omega)]; omega
    have e2 : ((n : Int)).tmod 10 = (r : Int) := by rw [Int.tmod_eq_emod_of_nonneg (by omega)]; omega
    have e3 : ((n : Int)) / 10 = (q : Int) := by omega
    have e4 : ((n : Int)) % 10 = (r : Int) := by omega
    have hq9 : q < 10 := by omega
    have hr9 : r < 10 := by omega
    have hs : (⟨(Lib.decDigits q).toArray⟩ : ByteArray).size ≤ 2 := dig_size (by omega)
    have hl : (Lib.decDigits q).length ≤ 2 := hs
    have HC := Lib.hid (show (48 + (r : Int)).toNat = 48 + r by omega)
    clear hq hr
    go_enter Tryz.func123, Tryz.ntmps123
    go_wp2_with fail
    refine (r_Digits1 q hq9 _).mono ?_
    rintro e w1 ⟨rfl, hb⟩
    go_wp2_with fail
    refine (r_chrD _ (by omega) (by omega) _).mono ?_
    rintro e w2 ⟨rfl, hb2⟩
    go_wp2_with fail
    go_ret
    exact ⟨congrArg (fun v => Ending.returned (.string v)) ((congrArg (fun z => (⟨(Lib.decDigits q).toArray⟩ : ByteArray) ++ ⟨#[UInt8.ofNat z]⟩) HC.out).trans HV.out), hb.trans (hb2.mono hb.size)⟩
set_option maxHeartbeats 1000000 in
theorem r_weekWord (j : Nat) (hj : j ≤ 6) (w : World) :
    Calls Tryz.prog 173 #[.int .i64 j] w fun e w' => e = .returned (.string (wordV j)) ∧ w = w' := by
  have hw : wordV j = WK.extract (3 * j) (3 * j + 3) := by rw [wordV]; congr 1
  rw [WK] at hw
  rw [hw]
  clear hw
  go_enter Tryz.func173, Tryz.ntmps173
  go_wp2_with fail
  go_ret
  exact ⟨rfl, rfl⟩
end Go.Proofs.YtanaoohgpdcfjaaGreatDoor
