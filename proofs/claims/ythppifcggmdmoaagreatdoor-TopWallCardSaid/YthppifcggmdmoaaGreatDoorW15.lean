/- Part 15 of the proof of TopWall: no condition; what its declarations say stands at each. -/
import Derived.Test.YthppifcggmdmoaaGreatDoorW14
namespace Go.Proofs.YthppifcggmdmoaaGreatDoor
open Go.RowKit
set_option linter.unusedVariables false
set_option maxRecDepth 100000 in
set_option maxHeartbeats 2000000 in
theorem b_Abbr_bad (F letter : ByteArray) (save : Int) (hl : letter.size ≤ maxLen) (h : (fmtOk F && letOk letter) = false) (w : World) :
  Calls Tryz.prog 8 #[.string F, .int .i64 save, .string letter] w fun e w' => e = .returned (.tuple #[.string (abV F save letter), .int .i64 (abE F save letter)]) ∧ Below w.heap.size w w' := by
 obtain ⟨e3, v3⟩ := ab_3 (save := save) h
 rw [e3, v3]
 clear e3 v3
 obtain ⟨a, b, sg, hsp⟩ := b_split_any F
 have HSP := Lib.hid hsp
 clear hsp
 cases hf : fmtOk F with
 | false =>
  go_enter Tryz.func8, Tryz.ntmps8
  go_wp2_with (first | (go_at_call 30; refine (HSP.out _).mono ?_; rintro e w1 ⟨rfl, hb⟩) | (go_at_call 31; refine (b_isLetter _ hl _).mono ?_; rintro e w' ⟨rfl, rfl⟩))
  go_ret2
  exact ⟨rfl, hb⟩
 | true =>
  have hq : letOk letter = false := by rw [hf, Bool.true_and] at h; exact h
  clear h
  go_enter Tryz.func8, Tryz.ntmps8
  go_wp2_with (first | (go_at_call 30; refine (HSP.out _).mono ?_; rintro e w1 ⟨rfl, hb⟩) | (go_at_call 31; refine (b_isLetter _ hl _).mono ?_; rintro e w' ⟨rfl, rfl⟩))
  go_ret2
  exact ⟨rfl, hb⟩
set_option maxRecDepth 100000 in
set_option maxHeartbeats 2000000 in
theorem b_Abbr_save (F letter : ByteArray) (save : Int) (hl : letter.size ≤ maxLen) (h : (fmtOk F && letOk letter) = true) (h2 : ¬ (0 ≤ save ∧ save ≤ 10800)) (w : World) :
  Calls Tryz.prog 8 #[.string F, .int .i64 save, .string letter] w fun e w' => e = .returned (.tuple #[.string (abV F save letter), .int .i64 (abE F save letter)]) ∧ Below w.heap.size w w' := by
 obtain ⟨e3, v3⟩ := ab_1 (save := save) h h2
 rw [e3, v3]
 clear e3 v3
 obtain ⟨a, b, sg, hsp⟩ := b_split_any F
 have HSP := Lib.hid hsp
 obtain ⟨hf, hq⟩ : fmtOk F = true ∧ letOk letter = true := by simpa only [Bool.and_eq_true] using h
 have hd : decide (0 ≤ save ∧ save ≤ 10800) = false := by simpa using h2
 clear hsp h h2
 go_enter Tryz.func8, Tryz.ntmps8
 go_wp2_with (first | (go_at_call 30; refine (HSP.out _).mono ?_; rintro e w1 ⟨rfl, hb⟩) | (go_at_call 31; refine (b_isLetter _ hl _).mono ?_; rintro e w' ⟨rfl, rfl⟩) | (go_at_call 32; refine (b_within _ _ _ _).mono ?_; rintro e w' ⟨rfl, rfl⟩))
 go_ret2
 exact ⟨rfl, hb⟩

theorem abbr_size {q : ByteArray} (h : isAbbrB q.data.toList = true) : 1 ≤ q.size ∧ q.size ≤ 8 := by
 have := allB_len h; rw [size_len] at this; exact ⟨this.1, this.2.1⟩
theorem not_empty {q : ByteArray} (h : 1 ≤ q.size) : q.toList.isEmpty = false := by
 rw [ByteArray.toList_eq]
 cases hl : q.data.toList with
 | nil => exfalso; have := size_len q; rw [hl] at this; simp at this; omega
 | cons => rfl
set_option maxRecDepth 100000 in
set_option maxHeartbeats 2000000 in
theorem b_Abbr_slash (F letter : ByteArray) (save : Int) (k : Nat) (hl : letter.size ≤ maxLen) (h : (fmtOk F && letOk letter) = true) (h2 : 0 ≤ save ∧ save ≤ 10800) (hk : ixB F 47 = k) (w : World) :
  Calls Tryz.prog 8 #[.string F, .int .i64 save, .string letter] w fun e w' => e = .returned (.tuple #[.string (abV F save letter), .int .i64 (abE F save letter)]) ∧ Below w.heap.size w w' := by
 obtain ⟨hf, hq⟩ : fmtOk F = true ∧ letOk letter = true := by simpa only [Bool.and_eq_true] using h
 have h12 : ¬ 12 < F.size := by intro h0; rw [fmtOk, if_pos h0] at hf; cases hf
 have hab : isAbbrB (cutA F 47).data.toList = true ∧ isAbbrB (cutB F 47).data.toList = true := by
  rw [fmtOk, if_neg h12, if_pos (by omega)] at hf; simpa only [Bool.and_eq_true] using hf
 obtain ⟨ha, hb⟩ := hab
 have sa := abbr_size ha
 have sb := abbr_size hb
 have ea := not_empty sa.1
 have eb := not_empty sb.1
 obtain ⟨sa1, sa2⟩ := sa
 obtain ⟨sb1, sb2⟩ := sb
 have ho : fmtOut F save letter = if save = 0 then cutA F 47 else cutB F 47 := by rw [fmtOut, if_pos (by omega)]
 have hd : decide (0 ≤ save ∧ save ≤ 10800) = true := by simpa using h2
 have HSP := Lib.hid (fun w => b_split_slash F k (by omega) hk w)
 by_cases h0 : save = 0
 ·rw [if_pos h0] at ho
  obtain ⟨e3, v3⟩ := ab_0 h h2 (by rw [ho]; omega) (by rw [ho]; omega)
  rw [ho] at v3
  rw [e3, v3]
  subst h0
  clear e3 v3 hk h h2 hf ho h12
  go_enter Tryz.func8, Tryz.ntmps8
  go_wp2_with (first | (go_at_call 30; refine (HSP.out _).mono ?_; rintro e w1 ⟨rfl, hbw⟩) | (go_at_call 31; refine (b_isLetter _ hl _).mono ?_; rintro e w' ⟨rfl, rfl⟩) | (go_at_call 32; refine (b_within _ _ _ _).mono ?_; rintro e w' ⟨rfl, rfl⟩))
  go_ret2
  exact ⟨rfl, hbw⟩
 ·rw [if_neg h0] at ho
  obtain ⟨e3, v3⟩ := ab_0 h h2 (by rw [ho]; omega) (by rw [ho]; omega)
  rw [ho] at v3
  rw [e3, v3]
  have hn0 : (save != 0) = true := by rw [bne_iff_ne]; exact h0
  clear e3 v3 hk h h2 hf ho h12 h0
  go_enter Tryz.func8, Tryz.ntmps8
  go_wp2_with (first | (go_at_call 30; refine (HSP.out _).mono ?_; rintro e w1 ⟨rfl, hbw⟩) | (go_at_call 31; refine (b_isLetter _ hl _).mono ?_; rintro e w' ⟨rfl, rfl⟩) | (go_at_call 32; refine (b_within _ _ _ _).mono ?_; rintro e w' ⟨rfl, rfl⟩))
  go_ret2
  exact ⟨rfl, hbw⟩
set_option maxRecDepth 100000 in
set_option maxHeartbeats 2000000 in
theorem b_Abbr_none (F letter : ByteArray) (save : Int) (hl : letter.size ≤ maxLen) (h : (fmtOk F && letOk letter) = true) (h2 : 0 ≤ save ∧ save ≤ 10800) (hs : ixB F 47 = -1) (hp : ixB F 37 = -1) (w : World) :
  Calls Tryz.prog 8 #[.string F, .int .i64 save, .string letter] w fun e w' => e = .returned (.tuple #[.string (abV F save letter), .int .i64 (abE F save letter)]) ∧ Below w.heap.size w w' := by
 obtain ⟨hf, hq⟩ : fmtOk F = true ∧ letOk letter = true := by simpa only [Bool.and_eq_true] using h
 have h12 : ¬ 12 < F.size := by intro h0; rw [fmtOk, if_pos h0] at hf; cases hf
 have ha : isAbbrB F.data.toList = true := by rw [fmtOk, if_neg h12, if_neg (by omega), if_neg (by omega)] at hf; exact hf
 have ea := not_empty (abbr_size ha).1
 obtain ⟨sa1, sa2⟩ := abbr_size ha
 have ho : fmtOut F save letter = F := by rw [fmtOut, if_neg (by omega), if_neg (by omega)]
 have hd : decide (0 ≤ save ∧ save ≤ 10800) = true := by simpa using h2
 have HSP := Lib.hid (fun w => b_split_none F (by omega) hs hp w)
 obtain ⟨e3, v3⟩ := ab_0 h h2 (by rw [ho]; omega) (by rw [ho]; omega)
 rw [ho] at v3
 rw [e3, v3]
 clear e3 v3 hs hp h h2 hf ho h12
 go_enter Tryz.func8, Tryz.ntmps8
 go_wp2_with (first | (go_at_call 30; refine (HSP.out _).mono ?_; rintro e w1 ⟨rfl, hbw⟩) | (go_at_call 31; refine (b_isLetter _ hl _).mono ?_; rintro e w' ⟨rfl, rfl⟩) | (go_at_call 32; refine (b_within _ _ _ _).mono ?_; rintro e w' ⟨rfl, rfl⟩))
 go_ret2
 exact ⟨rfl, hbw⟩
end Go.Proofs.YthppifcggmdmoaaGreatDoor

namespace Go.Proofs.YthppifcggmdmoaaGreatDoor
open Go.RowKit
set_option linter.unusedVariables false
theorem pct_size {ab : ByteArray} (h : pctOk ab = true) : ab.size ≤ 8 := by
 rw [pctOk, Bool.or_eq_true, decide_eq_true_eq] at h
 rcases h with h | h
 ·omega
 ·exact (abbr_size h).2
theorem let_size {letter : ByteArray} (h : letOk letter = true) : (letV letter).size ≤ 8 ∧ (letter.toList == [45]) = true ∧ letV letter = ⟨#[]⟩ ∨ (letV letter).size ≤ 8 ∧ (letter.toList == [45]) = false ∧ letV letter = letter := by
 cases hd : (letter.toList == [45]) with
 | true => left; rw [letV, hd]; exact ⟨Nat.zero_le _, rfl, rfl⟩
 | false =>
  right
  rw [letOk, hd, Bool.false_or] at h
  rw [letV, hd]; exact ⟨(abbr_size h).2, rfl, rfl⟩
set_option maxRecDepth 100000 in
set_option maxHeartbeats 16000000 in
theorem b_Abbr_pct (F letter : ByteArray) (save : Int) (k : Nat) (hl : letter.size ≤ maxLen) (h : (fmtOk F && letOk letter) = true) (h2 : 0 ≤ save ∧ save ≤ 10800) (hs : ixB F 47 = -1) (hk : ixB F 37 = k) (w : World) :
  Calls Tryz.prog 8 #[.string F, .int .i64 save, .string letter] w fun e w' => e = .returned (.tuple #[.string (abV F save letter), .int .i64 (abE F save letter)]) ∧ Below w.heap.size w w' := by
 obtain ⟨hf, hq⟩ : fmtOk F = true ∧ letOk letter = true := by simpa only [Bool.and_eq_true] using h
 have h12 : ¬ 12 < F.size := by intro h0; rw [fmtOk, if_pos h0] at hf; cases hf
 have hp : pctOk (cutA F 37 ++ cutB F 37) = true := by rw [fmtOk, if_neg h12, if_neg (by omega), if_pos (by omega)] at hf; exact hf
 have hsz := pct_size hp
 rw [ByteArray.size_append] at hsz
 have ho : fmtOut F save letter = cutA F 37 ++ (letV letter ++ cutB F 37) := by rw [fmtOut, if_neg (by omega), if_pos (by omega)]
 have hos : (fmtOut F save letter).size = (cutA F 37).size + ((letV letter).size + (cutB F 37).size) := by rw [ho, ByteArray.size_append, ByteArray.size_append]
 have hd : decide (0 ≤ save ∧ save ≤ 10800) = true := by simpa using h2
 have HSP := Lib.hid (fun w => b_split_pct F k (by omega) hs hk w)
 have hcase : (8 < (cutA F 37).size + ((letV letter).size + (cutB F 37).size) ∧ abE F save letter = 2 ∧ abV F save letter = ⟨#[]⟩) ∨ ((cutA F 37 ++ (letV letter ++ cutB F 37)).toList.isEmpty = true ∧ (cutA F 37).size + ((letV letter).size + (cutB F 37).size) ≤ 8 ∧ abE F save letter = 5 ∧ abV F save letter = ⟨#[]⟩) ∨
   ((cutA F 37 ++ (letV letter ++ cutB F 37)).toList.isEmpty = false ∧ (cutA F 37).size + ((letV letter).size + (cutB F 37).size) ≤ 8 ∧ abE F save letter = 0 ∧ abV F save letter = cutA F 37 ++ (letV letter ++ cutB F 37)) := by
  by_cases h8 : 8 < (fmtOut F save letter).size
  ·exact Or.inl ⟨by omega, ab_2 h h2 h8⟩
  ·by_cases h0 : (fmtOut F save letter).size = 0
   ·refine Or.inr (Or.inl ⟨?_, by omega, ab_5 h h2 h0⟩)
    rw [ho] at h0
    rw [ByteArray.toList_eq, List.length_eq_zero_iff.1 (show (cutA F 37 ++ (letV letter ++ cutB F 37)).data.toList.length = 0 by rw [size_len]; exact h0)]; rfl
   ·have e := ab_0 h h2 h8 h0
    rw [ho] at e h0
    exact Or.inr (Or.inr ⟨not_empty (by omega), by omega, e⟩)
 have hL := let_size hq
 clear ho hos hf h12 h h2 hs hk
 rcases hL with ⟨hl8, hD, hV⟩ | ⟨hl8, hD, hV⟩
 ·rw [hV] at hcase
  have z0 : (⟨#[]⟩ : ByteArray).size = 0 := rfl
  rw [z0] at hcase
  clear hV hl8 z0
  rcases hcase with ⟨s8, e3, v3⟩ | ⟨hem, s8, e3, v3⟩ | ⟨hem, s8, e3, v3⟩
  ·exfalso; omega
  all_goals
   rw [e3, v3]
   clear e3 v3 s8
   go_enter Tryz.func8, Tryz.ntmps8
   go_wp2_with (first | (go_at_call 30; refine (HSP.out _).mono ?_; rintro e w1 ⟨rfl, hbw⟩) | (go_at_call 31; refine (b_isLetter _ hl _).mono ?_; rintro e w' ⟨rfl, rfl⟩) | (go_at_call 32; refine (b_within _ _ _ _).mono ?_; rintro e w' ⟨rfl, rfl⟩))
   go_ret2
   exact ⟨rfl, hbw⟩
 ·rw [hV] at hcase hl8
  clear hV
  rcases hcase with ⟨s8, e3, v3⟩ | ⟨hem, s8, e3, v3⟩ | ⟨hem, s8, e3, v3⟩
  all_goals
   rw [e3, v3]
   clear e3 v3
   go_enter Tryz.func8, Tryz.ntmps8
   go_wp2_with (first | (go_at_call 30; refine (HSP.out _).mono ?_; rintro e w1 ⟨rfl, hbw⟩) | (go_at_call 31; refine (b_isLetter _ hl _).mono ?_; rintro e w' ⟨rfl, rfl⟩) | (go_at_call 32; refine (b_within _ _ _ _).mono ?_; rintro e w' ⟨rfl, rfl⟩))
   go_ret2
   exact ⟨rfl, hbw⟩
theorem b_Abbr (F letter : ByteArray) (save : Int) (hl : letter.size ≤ maxLen) (w : World) :
  Calls Tryz.prog 8 #[.string F, .int .i64 save, .string letter] w fun e w' => e = .returned (.tuple #[.string (abV F save letter), .int .i64 (abE F save letter)]) ∧ Below w.heap.size w w' := by
 by_cases h : (fmtOk F && letOk letter) = true
 ·by_cases h2 : 0 ≤ save ∧ save ≤ 10800
  ·rcases ix_cases F 47 with hs | ⟨k, hs, _⟩
   ·rcases ix_cases F 37 with hp | ⟨j, hp, _⟩
    ·exact b_Abbr_none F letter save hl h h2 hs hp w
    ·exact b_Abbr_pct F letter save j hl h h2 hs hp w
   ·exact b_Abbr_slash F letter save k hl h h2 hs w
  ·exact b_Abbr_save F letter save hl h h2 w
 ·exact b_Abbr_bad F letter save hl (eq_false_of_ne_true h) w
end Go.Proofs.YthppifcggmdmoaaGreatDoor

