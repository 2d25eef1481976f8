/- Walk of book.Abbr. -/
import Derived.Test.YtanaoohgpdcfjaaGreatDoorAbbrA2
namespace Go.Proofs.YtanaoohgpdcfjaaGreatDoor
open Go.RowKit
set_option linter.unusedVariables false
theorem ret_si {a c : ByteArray} {b d : Int} (h : a = c) (g : b = d) : Ending.returned (.tuple #[.string a, .int .i64 b]) = .returned (.tuple #[.string c, .int .i64 d]) := by rw [h, g]
set_option maxRecDepth 100000 in
set_option maxHeartbeats 2000000 in
theorem b_Abbr_bad (F letter : ByteArray) (save : Int) (hl : letter.size ≤ maxLen) (h : (fmtOk F && letOk letter) = false) (w : World) :
    Calls Tryz.prog 24 #[.string F, .int .i64 save, .string letter] w fun e w' => e = .returned (.tuple #[.string (abV F save letter), .int .i64 (abE F save letter)]) ∧ Below w.heap.size w w' := by
  obtain ⟨e3, v3⟩ := ab_3 (save := save) h
  rw [e3, v3]
  clear e3 v3
  obtain ⟨a, b, sg, hsp⟩ := b_split_any F
  have HSP := Lib.hid hsp
  clear hsp
  cases hf : fmtOk F with
  | false =>
    go_enter Tryz.func24, Tryz.ntmps24
    go_wp2_with (first | (go_at_call 75; refine (HSP.out _).mono ?_; rintro e w1 ⟨rfl, hb⟩) | (go_at_call 76; refine (b_isLetter _ hl _).mono ?_; rintro e w' ⟨rfl, rfl⟩))
    go_ret2
    exact ⟨rfl, hb⟩
  | true =>
    have hq : letOk letter = false := by rw [hf, Bool.true_and] at h; exact h
    clear h
    go_enter Tryz.func24, Tryz.ntmps24
    go_wp2_with (first | (go_at_call 75; refine (HSP.out _).mono ?_; rintro e w1 ⟨rfl, hb⟩) | (go_at_call 76; refine (b_isLetter _ hl _).mono ?_; rintro e w' ⟨rfl, rfl⟩))
    go_ret2
    exact ⟨rfl, hb⟩
set_option maxRecDepth 100000 in
set_option maxHeartbeats 2000000 in
theorem b_Abbr_save (F letter : ByteArray) (save : Int) (hl : letter.size ≤ maxLen) (h : (fmtOk F && letOk letter) = true) (h2 : ¬ (0 ≤ save ∧ save ≤ 10800)) (w : World) :
    Calls Tryz.prog 24 #[.string F, .int .i64 save, .string letter] w fun e w' => e = .returned (.tuple #[.string (abV F save letter), .int .i64 (abE F save letter)]) ∧ Below w.heap.size w w' := by
  obtain ⟨e3, v3⟩ := ab_1 (save := save) h h2
  rw [e3, v3]
  clear e3 v3
  obtain ⟨a, b, sg, hsp⟩ := b_split_any F
  have HSP := Lib.hid hsp
  obtain ⟨hf, hq⟩ : fmtOk F = true ∧ letOk letter = true := by simpa only [Bool.and_eq_true] using h
  have hd : decide (0 ≤ save ∧ save ≤ 10800) = false := by simpa using h2
  clear hsp h h2
  go_enter Tryz.func24, Tryz.ntmps24
  go_wp2_with (first | (go_at_call 75; refine (HSP.out _).mono ?_; rintro e w1 ⟨rfl, hb⟩) | (go_at_call 76; refine (b_isLetter _ hl _).mono ?_; rintro e w' ⟨rfl, rfl⟩) | (go_at_call 77; refine (b_within _ _ _ _).mono ?_; rintro e w' ⟨rfl, rfl⟩))
  go_ret2
  exact ⟨rfl, hb⟩

theorem abbr_size {q : ByteArray} (h : isAbbrB q.data.toList = true) : 1 ≤ q.size ∧ q.size ≤ 8 := by
  have := allB_len h; rw [size_len] at this; exact ⟨this.1, this.2.1⟩
theorem not_empty {q : ByteArray} (h : 1 ≤ q.size) : q.toList.isEmpty = false := by
  rw [ByteArray.toList_eq]
  cases hl : q.data.toList with
  | nil => exfalso; have := size_len q; rw [hl] at this; simp at this; omega
  | cons => rfl
set_option maxRecDepth 100000 in
set_option maxHeartbeats 2000000 in
theorem b_Abbr_slash (F letter : ByteArray) (save : Int) (k : Nat) (hl : letter.size ≤ maxLen) (h : (fmtOk F && letOk letter) = true) (h2 : 0 ≤ save ∧ save ≤ 10800) (hk : ixB F 47 = k) (w : World) :
    Calls Tryz.prog 24 #[.string F, .int .i64 save, .string letter] w fun e w' => e = .returned (.tuple #[.string (abV F save letter), .int .i64 (abE F save letter)]) ∧ Below w.heap.size w w' := by
  obtain ⟨hf, hq⟩ : fmtOk F = true ∧ letOk letter = true := by simpa only [Bool.and_eq_true] using h
  have h12 : ¬ 12 < F.size := by intro h0; rw [fmtOk, if_pos h0] at hf; cases hf
  have hab : isAbbrB (cutA F 47).data.toList = true ∧ isAbbrB (cutB F 47).data.toList = true := by
    rw [fmtOk, if_neg h12, if_pos (by omega)] at hf; simpa only [Bool.and_eq_true] using hf
  obtain ⟨ha, hb⟩ := hab
  have sa := abbr_size ha
  have sb := abbr_size hb
  have ea := not_empty sa.1
  have eb := not_empty sb.1
  obtain ⟨sa1, sa2⟩ := sa
  obtain ⟨sb1, sb2⟩ := sb
  have ho : fmtOut F save letter = if save = 0 then cutA F 47 else cutB F 47 := by rw [fmtOut, if_pos (by omega)]
  have hd : decide (0 ≤ save ∧ save ≤ 10800) = true := by simpa using h2
  have HSP := Lib.hid (fun w => b_split_slash F k (by omega) hk w)
  by_cases h0 : save = 0
  · rw [if_pos h0] at ho
    obtain ⟨e3, v3⟩ := ab_0 h h2 (by rw [ho]; omega) (by rw [ho]; omega)
    rw [ho] at v3
    rw [e3, v3]
    subst h0
    clear e3 v3 hk h h2 hf ho h12
    go_enter Tryz.func24, Tryz.ntmps24
    go_wp2_with (first | (go_at_call 75; refine (HSP.out _).mono ?_; rintro e w1 ⟨rfl, hbw⟩) | (go_at_call 76; refine (b_isLetter _ hl _).mono ?_; rintro e w' ⟨rfl, rfl⟩) | (go_at_call 77; refine (b_within _ _ _ _).mono ?_; rintro e w' ⟨rfl, rfl⟩))
    go_ret2
    exact ⟨rfl, hbw⟩
  · rw [if_neg h0] at ho
    obtain ⟨e3, v3⟩ := ab_0 h h2 (by rw [ho]; omega) (by rw [ho]; omega)
    rw [ho] at v3
    rw [e3, v3]
    have hn0 : (save != 0) = true := by rw [bne_iff_ne]; exact h0
    clear e3 v3 hk h h2 hf ho h12 h0
    go_enter Tryz.func24, Tryz.ntmps24
    go_wp2_with (first | (go_at_call 75; refine (HSP.out _).mono ?_; rintro e w1 ⟨rfl, hbw⟩) | (go_at_call 76; refine (b_isLetter _ hl _).mono ?_; rintro e w' ⟨rfl, rfl⟩) | (go_at_call 77; refine (b_within _ _ _ _).mono ?_; rintro e w' ⟨rfl, rfl⟩))
    go_ret2
    exact ⟨rfl, hbw⟩
set_option maxRecDepth 100000 in
set_option maxHeartbeats 2000000 in
theorem b_Abbr_none (F letter : ByteArray) (save : Int) (hl : letter.size ≤ maxLen) (h : (fmtOk F && letOk letter) = true) (h2 : 0 ≤ save ∧ save ≤ 10800) (hs : ixB F 47 = -1) (hp : ixB F 37 = -1) (w : World) :
    Calls Tryz.prog 24 #[.string F, .int .i64 save, .string letter] w fun e w' => e = .returned (.tuple #[.string (abV F save letter), .int .i64 (abE F save letter)]) ∧ Below w.heap.size w w' := by
  obtain ⟨hf, hq⟩ : fmtOk F = true ∧ letOk letter = true := by simpa only [Bool.and_eq_true] using h
  have h12 : ¬ 12 < F.size := by intro h0; rw [fmtOk, if_pos h0] at hf; cases hf
  have ha : isAbbrB F.data.toList = true := by rw [fmtOk, if_neg h12, if_neg (by omega), if_neg (by omega)] at hf; exact hf
  have ea := not_empty (abbr_size ha).1
  obtain ⟨sa1, sa2⟩ := abbr_size ha
  have ho : fmtOut F save letter = F := by rw [fmtOut, if_neg (by omega), if_neg (by omega)]
  have hd : decide (0 ≤ save ∧ save ≤ 10800) = true := by simpa using h2
  have HSP := Lib.hid (fun w => b_split_none F (by omega) hs hp w)
  obtain ⟨e3, v3⟩ := ab_0 h h2 (by rw [ho]; omega) (by rw [ho]; omega)
  rw [ho] at v3
  rw [e3, v3]
  clear e3 v3 hs hp h h2 hf ho h12
  go_enter Tryz.func24, Tryz.ntmps24
  go_wp2_with (first | (go_at_call 75; refine (HSP.out _).mono ?_; rintro e w1 ⟨rfl, hbw⟩) | (go_at_call 76; refine (b_isLetter _ hl _).mono ?_; rintro e w' ⟨rfl, rfl⟩) | (go_at_call 77; refine (b_within _ _ _ _).mono ?_; rintro e w' ⟨rfl, rfl⟩))
  go_ret2
  exact ⟨rfl, hbw⟩
end Go.Proofs.YtanaoohgpdcfjaaGreatDoor
