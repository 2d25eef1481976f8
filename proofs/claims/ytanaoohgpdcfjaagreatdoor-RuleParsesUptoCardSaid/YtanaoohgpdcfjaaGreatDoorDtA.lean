/- Walk of day.Text. -/
import Derived.Test.YtanaoohgpdcfjaaGreatDoorPln
import Derived.Test.YtanaoohgpdcfjaaGreatDoorDayA
import Derived.Test.YtanaoohgpdcfjaaGreatDoorShelf
namespace Go.Proofs.YtanaoohgpdcfjaaGreatDoor
open Go.RowKit
set_option linter.unusedVariables false
set_option maxRecDepth 100000 in
set_option maxHeartbeats 2000000 in
theorem d_Text (k wd n : Int) (w : World) :
    Calls Tryz.prog 118 #[.agg #[.int .i64 k, .int .i64 wd, .int .i64 n]] w fun e w' => e = .returned (.tuple #[.string (dtV k wd n), .int .i64 (dcE k wd n)]) ∧ Below w.heap.size w w' := by
  cases h : dcOk k wd n with
  | false =>
    rw [dtV_no h, dcE_no h]
    have hE := dcE_no h
    clear h
    go_enter Tryz.func118, Tryz.ntmps118
    go_wp2_with fail
    refine (d_Check _ _ _ _).mono ?_
    rintro e w1 ⟨rfl, hb⟩
    obtain ⟨c0, c1, c2, hz, hb'⟩ := box3 hb
    clear hb
    go_wp2_with fail
    go_ret2
    exact ⟨rfl, hb'⟩
  | true =>
    rw [dtV_ok h, dcE_ok h]
    have hE := dcE_ok h
    obtain ⟨hk, ⟨j, rfl, hj⟩, m, rfl, hm⟩ := day_cases h
    have hw : wordV j = WK.extract (3 * j) (3 * j + 3) := by rw [wordV]; congr 1
    have hd : digV m = ⟨(Lib.decDigits m).toArray⟩ := rfl
    have HS := Lib.hid (dig_size (n := m) (by omega))
    rw [WK] at hw
    clear h
    rcases hk with rfl | rfl | rfl | rfl
    all_goals
      first | rw [dtT_1] | rw [dtT_2] | rw [dtT_3] | rw [dtT_4]
      try rw [hw]
      try rw [hd]
      clear hw hd
      go_enter Tryz.func118, Tryz.ntmps118
      go_wp2_with fail
      refine (d_Check _ _ _ _).mono ?_
      rintro e w1 ⟨rfl, hb⟩
      obtain ⟨c0, c1, c2, hz, hb'⟩ := box3 hb
      clear hb
      have hj0 : (0 : Int) ≤ (j : Int) := by omega
      have hj1 : (0 : Int) ≤ 3 * (j : Int) := by omega
      have hj2 : 3 * (j : Int) + 3 ≤ 21 := by omega
      have hj3 : 3 * (j : Int) ≤ 3 * (j : Int) + 3 := by omega
      have hj4 : (0 : Int) ≤ 3 * (j : Int) + 3 := by omega
      have hw1 : IntKind.i64.wrap (3 * (j : Int)) = 3 * (j : Int) := IntWalk.i64_in _ (by omega)
      have hw2 : IntKind.i64.wrap (3 * (j : Int) + 3) = 3 * (j : Int) + 3 := IntWalk.i64_in _ (by omega)
      have hs1 := HS.out
      have hs2 : (Lib.decDigits m).length ≤ 2 := hs1
      go_wp2_with fail
      go_quiet ((go_at_call 101; exact Calls.quiet_of_same (Tryz.strconv_Itoa_small m (by omega) _)))
      go_wp2_with fail
    all_goals
      go_ret2
      exact ⟨rfl, below_drewN hb' _⟩
end Go.Proofs.YtanaoohgpdcfjaaGreatDoor
