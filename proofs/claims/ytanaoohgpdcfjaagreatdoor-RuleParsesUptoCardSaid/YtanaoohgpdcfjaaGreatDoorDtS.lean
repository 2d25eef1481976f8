/- The whole of the reference's DayText. -/
import Derived.Test.YtanaoohgpdcfjaaGreatDoorDtR2
import Derived.Test.YtanaoohgpdcfjaaGreatDoorDtR3
import Derived.Test.YtanaoohgpdcfjaaGreatDoorDtR4
import Derived.Test.YtanaoohgpdcfjaaGreatDoorDtR5
namespace Go.Proofs.YtanaoohgpdcfjaaGreatDoor
open Go.RowKit
set_option linter.unusedVariables false
set_option maxRecDepth 100000 in
set_option maxHeartbeats 2000000 in
theorem r_DayText (k wd n : Int) (w : World) :
    Calls Tryz.prog 124 #[.agg #[.int .i64 k, .int .i64 wd, .int .i64 n]] w fun e w' => e = .returned (.tuple #[.string (dtV k wd n), .int .i64 (dcE k wd n)]) ∧ Below w.heap.size w w' := by
  cases h : dcOk k wd n with
  | false =>
    rw [dtV_no h, dcE_no h]
    have hE := dcE_no h
    clear h
    go_enter Tryz.func124, Tryz.ntmps124
    go_wp2_with fail
    refine (r_DayCheck _ _ _ _).mono ?_
    rintro e w1 ⟨rfl, hb⟩
    obtain ⟨c0, c1, c2, hz, hb'⟩ := box3 hb
    clear hb
    go_wp2_with fail
    go_ret2
    exact ⟨rfl, hb'⟩
  | true =>
    rw [dtV_ok h, dcE_ok h]
    have hE := dcE_ok h
    obtain ⟨hk, ⟨j, rfl, hj⟩, m, rfl, hm⟩ := day_cases h
    rcases hk with rfl | rfl | rfl | rfl
    · exact r_DayText_1 j m hj hm hE w
    · exact r_DayText_2 j m hj hm hE w
    · exact r_DayText_3 j m hj hm hE w
    · exact r_DayText_4 j m hj hm hE w
end Go.Proofs.YtanaoohgpdcfjaaGreatDoor
