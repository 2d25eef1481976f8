/- Walks of rule.IsName, rule.IsAbbr and what they call. -/
import Derived.Test.YtanaoohgpdcfjaaGreatDoorBase
import Derived.Test.YtanaoohgpdcfjaaGreatDoorPln
import Derived.Test.YtanaoohgpdcfjaaGreatDoorShelf
namespace Go.Proofs.YtanaoohgpdcfjaaGreatDoor
open Go.RowKit
set_option linter.unusedVariables false

set_option maxHeartbeats 1000000 in
theorem u_isLetter (c : UInt8) (w : World) :
    Calls Tryz.prog 127 #[.int .u8 (c.toNat : Int)] w fun e w' => e = .returned (.bool (isLetB c)) ∧ w = w' := by
  by_cases h1 : 97 ≤ c.toNat <;> by_cases h2 : c.toNat ≤ 122 <;> by_cases h3 : 65 ≤ c.toNat <;> by_cases h4 : c.toNat ≤ 90 <;> first | (exfalso; omega) | skip
  all_goals
    go_enter Tryz.func127, Tryz.ntmps127
    go_wp2
    go_ret
    refine ⟨ret_bool ?_, rfl⟩
    first | (refine (isLetB_t ?_).symm; omega) | (refine (isLetB_f ?_).symm; omega) | (rw [isLetB, Bool.eq_iff_iff]; simp only [Bool.or_eq_true, decide_eq_true_eq]; omega)
set_option maxHeartbeats 400000 in
theorem u_isDigit (c : UInt8) (w : World) :
    Calls Tryz.prog 153 #[.int .u8 (c.toNat : Int)] w fun e w' => e = .returned (.bool (isDigB c)) ∧ w = w' := by
  by_cases h1 : 48 ≤ c.toNat <;> by_cases h2 : c.toNat ≤ 57 <;> first | (exfalso; omega) | skip
  all_goals
    go_enter Tryz.func153, Tryz.ntmps153
    go_wp2
    go_ret
    refine ⟨ret_bool ?_, rfl⟩
    first | (refine (isDigB_t ?_).symm; omega) | (refine (isDigB_f ?_).symm; omega) | (rw [isDigB, Bool.eq_iff_iff]; simp only [decide_eq_true_eq]; omega)

set_option maxHeartbeats 1000000 in
theorem u_all (s : ByteArray) (most : Nat) (o : ByteArray) (hs : s.size ≤ maxLen) (hm : most ≤ 1000) (w : World) :
    Calls Tryz.prog 111 #[.string s, .int .i64 (most : Int), .string o] w fun e w' => e = .returned (.bool (allB most o.data.toList s.data.toList)) ∧ w = w' := by
  unfold maxLen at hs
  go_enter Tryz.func111, Tryz.ntmps111
  go_wp2_with fail
  go_loop [10] (fun i => ∃ k : Nat, k ≤ s.size ∧ i = .int .i64 k ∧ Hid (lettersB o.data.toList (s.data.toList.take k) = true)) (fun i => s.size - (intOf i).toNat)
  case atStart => exact ⟨0, Nat.zero_le _, rfl, Lib.hid rfl⟩
  case round =>
    obtain ⟨k, hk, rfl, HL⟩ := hrel
    by_cases hlt : k < s.size
    · have hx := extract_one s k hlt
      have HS := Lib.hid (lettersB_snoc o.data.toList s.data.toList k (by simpa using hlt))
      have HB := Lib.hid (lettersB_bad o.data.toList s.data.toList k (by simpa using hlt))
      have HO : Hid (okB o.data.toList (s.data.toList[k]'(by simpa using hlt)) = (isLetB s[k] || isDigB s[k] || o.data.toList.contains s[k])) := Lib.hid rfl
      have hi := indexByte_contains o.data.toList s[k]
      by_cases h1 : isLetB s[k] = true
      · clear hi
        go_wp2_with (first | (go_at_call 127; refine (u_isLetter s[k] _).mono ?_; rintro e w' ⟨rfl, rfl⟩))
        exact ⟨⟨k + 1, by omega, by go_num, Lib.hid (by rw [HS.out, HL.out, HO.out, h1]; rfl)⟩, by simp [intOf]; omega⟩
      · have h1' := eq_false_of_ne_true h1
        clear h1
        by_cases h2 : isDigB s[k] = true
        · clear hi
          go_wp2_with (first | (go_at_call 127; refine (u_isLetter s[k] _).mono ?_; rintro e w' ⟨rfl, rfl⟩) | (go_at_call 153; refine (u_isDigit s[k] _).mono ?_; rintro e w' ⟨rfl, rfl⟩))
          exact ⟨⟨k + 1, by omega, by go_num, Lib.hid (by rw [HS.out, HL.out, HO.out, h2]; simp)⟩, by simp [intOf]; omega⟩
        · have h2' := eq_false_of_ne_true h2
          clear h2
          by_cases h3 : o.data.toList.contains s[k] = true
          · rw [h3] at hi
            go_wp2_with (first | (go_at_call 127; refine (u_isLetter s[k] _).mono ?_; rintro e w' ⟨rfl, rfl⟩) | (go_at_call 153; refine (u_isDigit s[k] _).mono ?_; rintro e w' ⟨rfl, rfl⟩) | (go_at_call 154; refine (Tryz.strings_Contains_one o s[k] _).mono ?_; rintro e w' ⟨rfl, rfl⟩))
            exact ⟨⟨k + 1, by omega, by go_num, Lib.hid (by rw [HS.out, HL.out, HO.out, h3]; simp)⟩, by simp [intOf]; omega⟩
          · have h3' := eq_false_of_ne_true h3
            rw [h3'] at hi
            have HX : Hid (lettersB o.data.toList s.data.toList = false) := Lib.hid (HB.out (by rw [HO.out, h1', h2', h3']; rfl))
            clear h3 h3'
            go_wp2_with (first | (go_at_call 127; refine (u_isLetter s[k] _).mono ?_; rintro e w' ⟨rfl, rfl⟩) | (go_at_call 153; refine (u_isDigit s[k] _).mono ?_; rintro e w' ⟨rfl, rfl⟩) | (go_at_call 154; refine (Tryz.strings_Contains_one o s[k] _).mono ?_; rintro e w' ⟨rfl, rfl⟩))
            go_ret
            exact ⟨ret_bool (by rw [allB, HX.out]; rfl), rfl⟩
    · obtain rfl : k = s.size := by omega
      have HX : Hid (lettersB o.data.toList s.data.toList = true) := Lib.hid (by have := HL.out; rwa [List.take_of_length_le (by simp)] at this)
      clear HL
      go_wp2_with fail
      all_goals go_ret
      · exact ⟨ret_bool (nil_fact s (by assumption) _ _).symm, rfl⟩
      · exact ⟨ret_bool (by rw [allB, HX.out]; exact len_fact s most), rfl⟩

set_option maxHeartbeats 1000000 in
theorem u_IsAbbr (s : ByteArray) (hs : s.size ≤ maxLen) (w : World) :
    Calls Tryz.prog 56 #[.string s] w fun e w' => e = .returned (.bool (isAbbrB s.data.toList)) ∧ w = w' := by
  go_enter Tryz.func56, Tryz.ntmps56
  go_wp2_with (go_at_call 111; refine (u_all s 8 ⟨#[43, 45]⟩ hs (by omega) _).mono ?_; rintro e w' ⟨rfl, rfl⟩)
  go_ret
  exact ⟨rfl, rfl⟩

set_option maxHeartbeats 1000000 in
theorem u_IsName (s : ByteArray) (hs : s.size ≤ maxLen) (w : World) :
    Calls Tryz.prog 67 #[.string s] w fun e w' => e = .returned (.bool (isNameB s.data.toList)) ∧ w = w' := by
  by_cases h : allB 20 [95, 47, 45] s.data.toList = true
  · obtain ⟨h1, h2, h3⟩ := allB_len h
    have h1' : 0 < s.size := by rw [← size_len]; omega
    have HX := Lib.hid (show isNameB s.data.toList = isLetB s[0] by rw [isNameB, h, head_get s h1']; rfl)
    clear h1 h2 h3
    go_enter Tryz.func67, Tryz.ntmps67
    go_wp2_with (first | (go_at_call 111; refine (u_all s 20 ⟨#[95, 47, 45]⟩ hs (by omega) _).mono ?_; rintro e w' ⟨rfl, rfl⟩) | (go_at_call 127; refine (u_isLetter _ _).mono ?_; rintro e w' ⟨rfl, rfl⟩))
    go_ret
    exact ⟨ret_bool HX.out.symm, rfl⟩
  · have h' := eq_false_of_ne_true h
    clear h
    have HX := Lib.hid (show isNameB s.data.toList = false by rw [isNameB, h']; rfl)
    go_enter Tryz.func67, Tryz.ntmps67
    go_wp2_with (first | (go_at_call 111; refine (u_all s 20 ⟨#[95, 47, 45]⟩ hs (by omega) _).mono ?_; rintro e w' ⟨rfl, rfl⟩) | (go_at_call 127; refine (u_isLetter _ _).mono ?_; rintro e w' ⟨rfl, rfl⟩))
    go_ret
    exact ⟨ret_bool HX.out.symm, rfl⟩
end Go.Proofs.YtanaoohgpdcfjaaGreatDoor
