/- Walk of the reference's RuleCheck. -/
import Derived.Test.YtanaoohgpdcfjaaGreatDoorRuleR2
import Derived.Test.YtanaoohgpdcfjaaGreatDoorPln
import Derived.Test.YtanaoohgpdcfjaaGreatDoorDayR
namespace Go.Proofs.YtanaoohgpdcfjaaGreatDoor
open Go.RowKit
set_option linter.unusedVariables false
theorem out_t {n a b : Int} (h : n < a ∨ b < n) : decide (n < a ∨ b < n) = true := by simpa using h
set_option maxRecDepth 100000 in
set_option maxHeartbeats 4000000 in
theorem r_RuleCheck (name letter : ByteArray) (f t m k wd n a b sv : Int) (hn : name.size ≤ maxLen) (hl : letter.size ≤ maxLen) (w : World) :
    Calls Tryz.prog 31 #[.agg #[.string name, .int .i64 f, .int .i64 t, .int .i64 m, .int .i64 k, .int .i64 wd, .int .i64 n, .int .i64 a, .int .i64 b, .int .i64 sv, .string letter]] w
      fun e w' => e = .returned (.int .i64 (ruleE name letter f t m k wd n a b sv)) ∧ Below w.heap.size w w' := by
  cases hN : isNameB name.data.toList with
  | false =>
    have HS := Lib.hid (show ruleS name letter = false by rw [ruleS, hN]; rfl)
    go_enter Tryz.func31, Tryz.ntmps31
    go_wp2_with (first | (go_at_call 32; refine (r_IsName _ hn _).mono ?_; rintro e w1 ⟨rfl, hb⟩; first | (obtain ⟨hcs, hz, hb'⟩ := boxc hb; clear hb) | (have K := keepc hcs hz hb' hb; clear hcs hz hb' hb; obtain ⟨hcs, hz, hb'⟩ := K)) | (go_at_call 90; refine (r_IsAbbr _ hl _).mono ?_; rintro e w1 ⟨rfl, hb⟩; first | (obtain ⟨hcs, hz, hb'⟩ := boxc hb; clear hb) | (have K := keepc hcs hz hb' hb; clear hcs hz hb' hb; obtain ⟨hcs, hz, hb'⟩ := K)) | (go_at_call 72; refine (r_outside _ _ _ _).mono ?_; rintro e w' ⟨rfl, rfl⟩) | (go_at_call 91; refine (r_DayCheck _ _ _ _).mono ?_; rintro e w1 ⟨rfl, hb⟩; first | (obtain ⟨hcs, hz, hb'⟩ := boxc hb; clear hb) | (have K := keepc hcs hz hb' hb; clear hcs hz hb' hb; obtain ⟨hcs, hz, hb'⟩ := K)) | (go_at_call 92; refine (r_Length _ _ _).mono ?_; rintro e w1 ⟨rfl, hb⟩; first | (obtain ⟨hcs, hz, hb'⟩ := boxc hb; clear hb) | (have K := keepc hcs hz hb' hb; clear hcs hz hb' hb; obtain ⟨hcs, hz, hb'⟩ := K)))
    go_ret
    exact ⟨ret_int (ruleE_3 HS.out).symm, hb'⟩
  | true =>
    cases hS : ruleS name letter with
    | false =>
      have hD : (letter.toList == [45]) = false := by rw [ruleS, hN, Bool.true_and] at hS; exact (Bool.or_eq_false_iff.1 hS).1
      have hA : isAbbrB letter.data.toList = false := by rw [ruleS, hN, Bool.true_and] at hS; exact (Bool.or_eq_false_iff.1 hS).2
      have HS := Lib.hid hS
      clear hS
      go_enter Tryz.func31, Tryz.ntmps31
      go_wp2_with (first | (go_at_call 32; refine (r_IsName _ hn _).mono ?_; rintro e w1 ⟨rfl, hb⟩; first | (obtain ⟨hcs, hz, hb'⟩ := boxc hb; clear hb) | (have K := keepc hcs hz hb' hb; clear hcs hz hb' hb; obtain ⟨hcs, hz, hb'⟩ := K)) | (go_at_call 90; refine (r_IsAbbr _ hl _).mono ?_; rintro e w1 ⟨rfl, hb⟩; first | (obtain ⟨hcs, hz, hb'⟩ := boxc hb; clear hb) | (have K := keepc hcs hz hb' hb; clear hcs hz hb' hb; obtain ⟨hcs, hz, hb'⟩ := K)) | (go_at_call 72; refine (r_outside _ _ _ _).mono ?_; rintro e w' ⟨rfl, rfl⟩) | (go_at_call 91; refine (r_DayCheck _ _ _ _).mono ?_; rintro e w1 ⟨rfl, hb⟩; first | (obtain ⟨hcs, hz, hb'⟩ := boxc hb; clear hb) | (have K := keepc hcs hz hb' hb; clear hcs hz hb' hb; obtain ⟨hcs, hz, hb'⟩ := K)) | (go_at_call 92; refine (r_Length _ _ _).mono ?_; rintro e w1 ⟨rfl, hb⟩; first | (obtain ⟨hcs, hz, hb'⟩ := boxc hb; clear hb) | (have K := keepc hcs hz hb' hb; clear hcs hz hb' hb; obtain ⟨hcs, hz, hb'⟩ := K)))
      go_ret
      exact ⟨ret_int (ruleE_3 HS.out).symm, hb'⟩
    | true =>
      have HS := Lib.hid hS
      have hc : (letter.toList == [45]) = true ∨ ((letter.toList == [45]) = false ∧ isAbbrB letter.data.toList = true) := by
        rw [ruleS, hN, Bool.true_and, Bool.or_eq_true] at hS
        cases e : (letter.toList == [45]) with
        | true => exact Or.inl rfl
        | false => rw [e] at hS; exact Or.inr ⟨rfl, hS.resolve_left (by decide)⟩
      have HL := lenV_1901 m
      clear hS
      rcases hc with hD | ⟨hD, hA⟩
      all_goals
        go_enter Tryz.func31, Tryz.ntmps31
        go_wp2_with (first | (go_at_call 32; refine (r_IsName _ hn _).mono ?_; rintro e w1 ⟨rfl, hb⟩; first | (obtain ⟨hcs, hz, hb'⟩ := boxc hb; clear hb) | (have K := keepc hcs hz hb' hb; clear hcs hz hb' hb; obtain ⟨hcs, hz, hb'⟩ := K)) | (go_at_call 90; refine (r_IsAbbr _ hl _).mono ?_; rintro e w1 ⟨rfl, hb⟩; first | (obtain ⟨hcs, hz, hb'⟩ := boxc hb; clear hb) | (have K := keepc hcs hz hb' hb; clear hcs hz hb' hb; obtain ⟨hcs, hz, hb'⟩ := K)) | (go_at_call 72; refine (r_outside _ _ _ _).mono ?_; rintro e w' ⟨rfl, rfl⟩) | (go_at_call 91; refine (r_DayCheck _ _ _ _).mono ?_; rintro e w1 ⟨rfl, hb⟩; first | (obtain ⟨hcs, hz, hb'⟩ := boxc hb; clear hb) | (have K := keepc hcs hz hb' hb; clear hcs hz hb' hb; obtain ⟨hcs, hz, hb'⟩ := K)) | (go_at_call 92; refine (r_Length _ _ _).mono ?_; rintro e w1 ⟨rfl, hb⟩; first | (obtain ⟨hcs, hz, hb'⟩ := boxc hb; clear hb) | (have K := keepc hcs hz hb' hb; clear hcs hz hb' hb; obtain ⟨hcs, hz, hb'⟩ := K)))
      all_goals
        go_ret
        refine ⟨ret_int ?_, hb'⟩
        try simp only [Bool.not_eq_true', Bool.not_eq_false', decide_eq_true_eq, decide_eq_false_iff_not] at *
        first
          | (refine (ruleE_1 HS.out (ruleN_no ?_)).symm; rintro ⟨q1, q2, q3⟩; omega)
          | (have q := dc_no (bne_iff_ne.1 (by assumption)); refine q.2.trans (ruleE_1 HS.out (ruleN_no ?_)).symm; rintro ⟨q1, q2, q3⟩; rw [q.1] at q2; exact absurd q2 (by decide))
          | (refine (ruleE_0 HS.out (ruleN_iff.2 ⟨by omega, dc_ok (bne_eq_false_iff_eq.1 (by assumption)), by omega⟩)).symm)
end Go.Proofs.YtanaoohgpdcfjaaGreatDoor
