/- Walks of the reference's IsName and IsAbbr. -/
import Derived.Test.YtanaoohgpdcfjaaGreatDoorRuleR
namespace Go.Proofs.YtanaoohgpdcfjaaGreatDoor
open Go.RowKit
set_option linter.unusedVariables false

set_option maxHeartbeats 1000000 in
theorem r_IsAbbr (s : ByteArray) (hs : s.size ≤ maxLen) (w : World) :
    Calls Tryz.prog 90 #[.string s] w fun e w' => e = .returned (.bool (isAbbrB s.data.toList)) ∧ Below w.heap.size w w' := by
  have hs' := hs
  unfold maxLen at hs'
  by_cases h : 1 ≤ s.size ∧ s.size ≤ 8
  · have HX := Lib.hid (show isAbbrB s.data.toList = lettersB [43, 45] s.data.toList by rw [isAbbrB, allB, size_len, decide_eq_true h, Bool.and_true])
    obtain ⟨h1, h2⟩ := h
    have ho : decide ((s.size : Int) < 1 ∨ 8 < (s.size : Int)) = false := by simp; omega
    go_enter Tryz.func90, Tryz.ntmps90
    go_wp2_with (first | (go_at_call 72; refine (r_outside _ _ _ _).mono ?_; rintro e w' ⟨rfl, rfl⟩) | (go_at_call 93; refine (r_letters s ⟨#[43, 45]⟩ hs (by unfold maxLen; decide) _).mono ?_; rintro e w1 ⟨rfl, hb⟩))
    go_ret
    exact ⟨ret_bool HX.out.symm, hb⟩
  · have HX := Lib.hid (show isAbbrB s.data.toList = false by rw [isAbbrB, allB, size_len, decide_eq_false h, Bool.and_false])
    have ho : decide ((s.size : Int) < 1 ∨ 8 < (s.size : Int)) = true := by simp; omega
    clear h
    go_enter Tryz.func90, Tryz.ntmps90
    go_wp2_with (first | (go_at_call 72; refine (r_outside _ _ _ _).mono ?_; rintro e w' ⟨rfl, rfl⟩))
    go_ret
    exact ⟨ret_bool HX.out.symm, (by repeat (first | exact Below.refl _ _ | assumption | apply Below.drew | apply below_drewN | (refine Below.alloc ?_ (by simp; try omega) _) | (refine Below.setCell ?_ (by simp; try omega) _)))⟩

theorem first_letter (s : ByteArray) (h : 0 < s.size) : lettersB [] (s.extract 0 1).data.toList = (isLetB s[0] || isDigB s[0]) := by
  rw [extract_one s 0 h]; simp [lettersB, okB]
theorem name_first (c : UInt8) : ((isLetB c || isDigB c) && (decide (c.toNat < 48) || decide (57 < c.toNat))) = isLetB c := by
  by_cases h : 48 ≤ c.toNat ∧ c.toNat ≤ 57
  · rw [isDigB_t h, isLetB_f (by omega), decide_eq_false (by omega), decide_eq_false (by omega)]; rfl
  · rw [isDigB_f h, Bool.or_false]
    by_cases h2 : c.toNat < 48
    · rw [decide_eq_true h2, Bool.true_or, Bool.and_true]
    · rw [decide_eq_false h2, decide_eq_true (by omega), Bool.false_or, Bool.and_true]
set_option maxHeartbeats 1000000 in
theorem r_IsName (s : ByteArray) (hs : s.size ≤ maxLen) (w : World) :
    Calls Tryz.prog 32 #[.string s] w fun e w' => e = .returned (.bool (isNameB s.data.toList)) ∧ Below w.heap.size w w' := by
  have hs' := hs
  unfold maxLen at hs'
  by_cases h : 1 ≤ s.size ∧ s.size ≤ 20
  · have hx : isNameB s.data.toList = (lettersB [95, 47, 45] s.data.toList && isLetB s[0]) := by rw [isNameB, allB, size_len, decide_eq_true h, Bool.and_true, head_get s h.1]
    obtain ⟨h1, h2⟩ := h
    have ho : decide ((s.size : Int) < 1 ∨ 20 < (s.size : Int)) = false := by simp; omega
    have hf := first_letter s h1
    by_cases hl : lettersB [95, 47, 45] s.data.toList = true
    · rw [hl, Bool.true_and] at hx
      have hc : (isLetB s[0] || isDigB s[0]) = true ∧ (48 ≤ s[0].toNat ∧ s[0].toNat ≤ 57) ∧ isLetB s[0] = false ∨ (isLetB s[0] || isDigB s[0]) = true ∧ s[0].toNat < 48 ∧ isLetB s[0] = true ∨ (isLetB s[0] || isDigB s[0]) = true ∧ 57 < s[0].toNat ∧ isLetB s[0] = true ∨ (isLetB s[0] || isDigB s[0]) = false ∧ isLetB s[0] = false := by
        by_cases h3 : 48 ≤ s[0].toNat ∧ s[0].toNat ≤ 57
        · rw [isDigB_t h3, isLetB_f (by omega)]; simp [h3]
        · rw [isDigB_f h3]
          by_cases h4 : isLetB s[0] = true
          · rw [h4]; simp; omega
          · rw [eq_false_of_ne_true h4]; simp
      rcases hc with ⟨hf2, ⟨n1, n2⟩, hL⟩ | ⟨hf2, n1, hL⟩ | ⟨hf2, n1, hL⟩ | ⟨hf2, hL⟩
      all_goals
        rw [hL] at hx
        rw [hf2] at hf
        have HX := Lib.hid hx
        have HF := Lib.hid hf
        have HL2 := Lib.hid hl
        clear hx hf hf2 hL hl
        go_enter Tryz.func32, Tryz.ntmps32
        go_wp2_with (first | (go_at_call 72; refine (r_outside _ _ _ _).mono ?_; rintro e w' ⟨rfl, rfl⟩))
        refine (r_letters s ⟨#[95, 47, 45]⟩ hs (by unfold maxLen; decide) _).mono ?_
        rintro e w1 ⟨rfl, hb⟩
        rw [HL2.out]
        go_wp2_with fail
        refine (r_letters _ ⟨#[]⟩ (by unfold maxLen; simp; omega) (by unfold maxLen; decide) _).mono ?_
        rintro e w2 ⟨rfl, hb2⟩
        rw [HF.out]
        go_wp2_with fail
        go_ret
        exact ⟨ret_bool (by rw [HX.out] <;> first | rfl | (simp <;> omega)), hb.trans (hb2.mono hb.size)⟩
    · have hl' := eq_false_of_ne_true hl
      rw [hl', Bool.false_and] at hx
      have HX := Lib.hid hx
      have HL2 := Lib.hid hl'
      clear hx hl hl' hf
      go_enter Tryz.func32, Tryz.ntmps32
      go_wp2_with (first | (go_at_call 72; refine (r_outside _ _ _ _).mono ?_; rintro e w' ⟨rfl, rfl⟩))
      refine (r_letters s ⟨#[95, 47, 45]⟩ hs (by unfold maxLen; decide) _).mono ?_
      rintro e w1 ⟨rfl, hb⟩
      rw [HL2.out]
      go_wp2_with fail
      go_ret
      exact ⟨ret_bool HX.out.symm, hb⟩
  · have HX := Lib.hid (show isNameB s.data.toList = false by rw [isNameB, allB, size_len, decide_eq_false h, Bool.and_false]; rfl)
    have ho : decide ((s.size : Int) < 1 ∨ 20 < (s.size : Int)) = true := by simp; omega
    clear h
    go_enter Tryz.func32, Tryz.ntmps32
    go_wp2_with (first | (go_at_call 72; refine (r_outside _ _ _ _).mono ?_; rintro e w' ⟨rfl, rfl⟩))
    go_ret
    exact ⟨ret_bool HX.out.symm, (by repeat (first | exact Below.refl _ _ | assumption | apply Below.drew | apply below_drewN | (refine Below.alloc ?_ (by simp; try omega) _) | (refine Below.setCell ?_ (by simp; try omega) _)))⟩
end Go.Proofs.YtanaoohgpdcfjaaGreatDoor
