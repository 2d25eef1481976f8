/- Part 37 of the proof of BookParses: no condition; what its declarations say stands at each. -/
import Derived.Test.YthppifcggmdmoaaGreatDoorJ03
import Derived.Test.YthppifcggmdmoaaGreatDoorJ13
import Derived.Test.YthppifcggmdmoaaGreatDoorJ26
namespace Go.Proofs.YthppifcggmdmoaaGreatDoor
open Go.RowKit
set_option linter.unusedVariables false
theorem abbr_size' {q : ByteArray} (h : isAbbrB q.data.toList = true) : 1 ≤ q.size ∧ q.size ≤ 8 := by
 have := allB_len h; rw [size_len] at this; exact ⟨this.1, this.2.1⟩
theorem not_empty' {q : ByteArray} (h : 1 ≤ q.size) : ¬ q.toList = [] := by
 rw [ByteArray.toList_eq]
 intro hl
 have := size_len q; rw [hl] at this; simp at this; omega
theorem not_emptyB {q : ByteArray} (h : 1 ≤ q.size) : q.toList.isEmpty = false := by
 cases hl : q.toList with
 | nil => exact absurd hl (not_empty' h)
 | cons => rfl
theorem is_emptyB {q : ByteArray} (h : q.size = 0) : q.toList.isEmpty = true := by
 have : q.toList = [] := by rw [ByteArray.toList_eq]; exact List.length_eq_zero_iff.1 (by rw [size_len]; exact h)
 rw [this]; rfl
theorem is_empty' {q : ByteArray} (h : q.size = 0) : q.toList = [] := by
 rw [ByteArray.toList_eq]; exact List.length_eq_zero_iff.1 (by rw [size_len]; exact h)
theorem cut_calls {F : ByteArray} {c : UInt8} {k : Nat} (hm : F.size ≤ maxLen) (hk : ixB F c = k) (w : World) :
  Calls Tryz.prog 69 #[.string F, .string ⟨#[c]⟩] w fun e w' => e = .returned (.tuple #[.string (cutA F c), .string (cutB F c), .bool true]) ∧ ∃ n, w' = w.drewN n := by
 have := str_cut_yes F c k hm hk w
 rw [cutA, cutB, hk]; exact this
theorem cut_sizes' (F : ByteArray) (c : UInt8) (h : F.size ≤ 12) : (cutA F c).size ≤ 12 ∧ (cutB F c).size ≤ 12 := by
 unfold cutA cutB; rw [ByteArray.size_extract, ByteArray.size_extract]; omega
theorem count_le (F : ByteArray) (c : UInt8) : Lib.countByte F.data.toList c ≤ F.size := by
 rw [← size_len]; exact List.count_le_length
theorem let_cases {letter : ByteArray} (h : letOk letter = true) : (letter.toList == [45]) = true ∨ (letter.toList == [45]) = false ∧ isAbbrB letter.data.toList = true := by
 cases hd : (letter.toList == [45]) with
 | true => exact Or.inl rfl
 | false => rw [letOk, hd, Bool.false_or] at h; exact Or.inr ⟨rfl, h⟩
set_option maxRecDepth 100000 in
set_option maxHeartbeats 1000000 in
theorem r_Abbr_head (F letter : ByteArray) (save : Int) (hF : F.size ≤ maxLen) (hl : letter.size ≤ maxLen) (h : 12 < F.size ∨ F.size ≤ 12 ∧ 1 < Lib.countByte F.data.toList 37 + Lib.countByte F.data.toList 47 ∨ letOk letter = false) (w : World) :
  Calls Tryz.prog 117 #[.string F, .int .i64 save, .string letter] w fun e w' => e = .returned (.tuple #[.string ⟨#[]⟩, .int .i64 3]) ∧ Below w.heap.size w w' := by
 have hB : Below w.heap.size w w := Below.refl _ _
 have hF' := hF
 unfold maxLen at hF'
 by_cases hbig : 12 < F.size
 ·clear h
  go_enter Tryz.func117, Tryz.ntmps117
  go_wp2_with fail
  go_ret2
  exact ⟨rfl, hB⟩
 ·have hc1 := count_le F 37
  have hc2 := count_le F 47
  obtain ⟨n37, h37⟩ : ∃ n, Lib.countByte F.data.toList 37 = n := ⟨_, rfl⟩
  obtain ⟨n47, h47⟩ : ∃ n, Lib.countByte F.data.toList 47 = n := ⟨_, rfl⟩
  rw [h37] at hc1 h
  rw [h47] at hc2 h
  by_cases hcnt : 1 < n37 + n47
  ·clear h
   go_enter Tryz.func117, Tryz.ntmps117
   go_wp2_with fail
   refine (Tryz.strings_Count_one F 37 _).mono ?_
   rintro e w' ⟨rfl, rfl⟩
   go_wp2_with fail
   refine (Tryz.strings_Count_one F 47 _).mono ?_
   rintro e w' ⟨rfl, rfl⟩
   go_wp2_with fail
   go_ret2
   exact ⟨rfl, hB⟩
  ·have hlo : letOk letter = false := by
    rcases h with h | ⟨_, h⟩ | h
    ·omega
    ·omega
    ·exact h
   have hD : (letter.toList == [45]) = false := by rw [letOk, Bool.or_eq_false_iff] at hlo; exact hlo.1
   have hA : isAbbrB letter.data.toList = false := by rw [letOk, Bool.or_eq_false_iff] at hlo; exact hlo.2
   clear h hlo
   go_enter Tryz.func117, Tryz.ntmps117
   go_wp2_with fail
   refine (Tryz.strings_Count_one F 37 _).mono ?_
   rintro e w' ⟨rfl, rfl⟩
   go_wp2_with fail
   refine (Tryz.strings_Count_one F 47 _).mono ?_
   rintro e w' ⟨rfl, rfl⟩
   go_wp2_with fail
   refine (r_IsAbbr _ hl _).mono ?_
   rintro e w1 ⟨rfl, hb⟩
   go_wp2_with fail
   go_ret2
   exact ⟨rfl, hb⟩
end Go.Proofs.YthppifcggmdmoaaGreatDoor

namespace Go.Proofs.YthppifcggmdmoaaGreatDoor
open Go.RowKit
set_option linter.unusedVariables false
set_option maxRecDepth 100000 in
set_option maxHeartbeats 2000000 in
theorem r_Abbr_n_bad (F letter : ByteArray) (save : Int)  (hF : F.size ≤ 12) (hl : letter.size ≤ maxLen) (hlo : letOk letter = true) (hcc : Lib.countByte F.data.toList 37 + Lib.countByte F.data.toList 47 ≤ 1) (hs : ixB F 47 = -1) (hp : ixB F 37 = -1) (ha : isAbbrB F.data.toList = false) (w : World) :
  Calls Tryz.prog 117 #[.string F, .int .i64 save, .string letter] w fun e w' => e = .returned (.tuple #[.string ⟨#[]⟩, .int .i64 3]) ∧ Below w.heap.size w w' := by
 have hB : Below w.heap.size w w := Below.refl _ _
 have hm : F.size ≤ maxLen := by unfold maxLen; omega
 have HM := Lib.hid hm
 have hL := let_cases hlo
 obtain ⟨n37, h37⟩ : ∃ n, Lib.countByte F.data.toList 37 = n := ⟨_, rfl⟩
 obtain ⟨n47, h47⟩ : ∃ n, Lib.countByte F.data.toList 47 = n := ⟨_, rfl⟩
 rw [h37, h47] at hcc
 have HN := Lib.hid (fun w => str_cut_no F 47 hs w)
 have HC := Lib.hid (fun w => str_cut_no F 37 hp w)
 clear hs hp
 clear hm hlo
 rcases hL with hD | ⟨hD, hA⟩
 ·go_enter Tryz.func117, Tryz.ntmps117
  go_wp2_with fail
  refine (Tryz.strings_Count_one F 37 _).mono ?_
  rintro e w' ⟨rfl, rfl⟩
  go_wp2_with fail
  refine (Tryz.strings_Count_one F 47 _).mono ?_
  rintro e w' ⟨rfl, rfl⟩
  go_wp2_with fail
  refine (HN.out _).mono ?_
  rintro e wc ⟨rfl, n, rfl⟩
  replace hB := below_drewN hB n
  try simp only [World.drewN_drewN] at hB
  go_wp2_with fail
  refine (HC.out _).mono ?_
  rintro e wc ⟨rfl, n, rfl⟩
  replace hB := below_drewN hB n
  try simp only [World.drewN_drewN] at hB
  go_wp2_with fail
  refine (r_IsAbbr _ HM.out _).mono ?_
  rintro e wa ⟨rfl, hb⟩
  replace hB := hB.trans (hb.mono hB.size)
  clear hb
  go_wp2_with fail
  go_ret2
  exact ⟨rfl, hB⟩
 ·go_enter Tryz.func117, Tryz.ntmps117
  go_wp2_with fail
  refine (Tryz.strings_Count_one F 37 _).mono ?_
  rintro e w' ⟨rfl, rfl⟩
  go_wp2_with fail
  refine (Tryz.strings_Count_one F 47 _).mono ?_
  rintro e w' ⟨rfl, rfl⟩
  go_wp2_with fail
  refine (r_IsAbbr _ hl _).mono ?_
  rintro e w1 ⟨rfl, hb⟩
  replace hB := hB.trans (hb.mono hB.size)
  clear hb
  go_wp2_with fail
  refine (HN.out _).mono ?_
  rintro e wc ⟨rfl, n, rfl⟩
  replace hB := below_drewN hB n
  try simp only [World.drewN_drewN] at hB
  go_wp2_with fail
  refine (HC.out _).mono ?_
  rintro e wc ⟨rfl, n, rfl⟩
  replace hB := below_drewN hB n
  try simp only [World.drewN_drewN] at hB
  go_wp2_with fail
  refine (r_IsAbbr _ HM.out _).mono ?_
  rintro e wa ⟨rfl, hb⟩
  replace hB := hB.trans (hb.mono hB.size)
  clear hb
  go_wp2_with fail
  go_ret2
  exact ⟨rfl, hB⟩
set_option maxRecDepth 100000 in
set_option maxHeartbeats 2000000 in
theorem r_Abbr_n_save (F letter : ByteArray) (save : Int)  (hF : F.size ≤ 12) (hl : letter.size ≤ maxLen) (hlo : letOk letter = true) (hcc : Lib.countByte F.data.toList 37 + Lib.countByte F.data.toList 47 ≤ 1) (hs : ixB F 47 = -1) (hp : ixB F 37 = -1) (ha : isAbbrB F.data.toList = true) (h2 : ¬ (0 ≤ save ∧ save ≤ 10800)) (w : World) :
  Calls Tryz.prog 117 #[.string F, .int .i64 save, .string letter] w fun e w' => e = .returned (.tuple #[.string ⟨#[]⟩, .int .i64 1]) ∧ Below w.heap.size w w' := by
 have hB : Below w.heap.size w w := Below.refl _ _
 have hm : F.size ≤ maxLen := by unfold maxLen; omega
 have HM := Lib.hid hm
 have hL := let_cases hlo
 obtain ⟨n37, h37⟩ : ∃ n, Lib.countByte F.data.toList 37 = n := ⟨_, rfl⟩
 obtain ⟨n47, h47⟩ : ∃ n, Lib.countByte F.data.toList 47 = n := ⟨_, rfl⟩
 rw [h37, h47] at hcc
 have HN := Lib.hid (fun w => str_cut_no F 47 hs w)
 have HC := Lib.hid (fun w => str_cut_no F 37 hp w)
 clear hs hp
 have hd : decide (save < 0 ∨ 10800 < save) = true := by simp; omega
 clear h2
 clear hm hlo
 rcases hL with hD | ⟨hD, hA⟩
 ·go_enter Tryz.func117, Tryz.ntmps117
  go_wp2_with fail
  refine (Tryz.strings_Count_one F 37 _).mono ?_
  rintro e w' ⟨rfl, rfl⟩
  go_wp2_with fail
  refine (Tryz.strings_Count_one F 47 _).mono ?_
  rintro e w' ⟨rfl, rfl⟩
  go_wp2_with fail
  refine (HN.out _).mono ?_
  rintro e wc ⟨rfl, n, rfl⟩
  replace hB := below_drewN hB n
  try simp only [World.drewN_drewN] at hB
  go_wp2_with fail
  refine (HC.out _).mono ?_
  rintro e wc ⟨rfl, n, rfl⟩
  replace hB := below_drewN hB n
  try simp only [World.drewN_drewN] at hB
  go_wp2_with fail
  refine (r_IsAbbr _ HM.out _).mono ?_
  rintro e wa ⟨rfl, hb⟩
  replace hB := hB.trans (hb.mono hB.size)
  clear hb
  go_wp2_with fail
  refine (r_outside _ _ _ _).mono ?_
  rintro e w' ⟨rfl, rfl⟩
  go_wp2_with fail
  go_ret2
  exact ⟨rfl, hB⟩
 ·go_enter Tryz.func117, Tryz.ntmps117
  go_wp2_with fail
  refine (Tryz.strings_Count_one F 37 _).mono ?_
  rintro e w' ⟨rfl, rfl⟩
  go_wp2_with fail
  refine (Tryz.strings_Count_one F 47 _).mono ?_
  rintro e w' ⟨rfl, rfl⟩
  go_wp2_with fail
  refine (r_IsAbbr _ hl _).mono ?_
  rintro e w1 ⟨rfl, hb⟩
  replace hB := hB.trans (hb.mono hB.size)
  clear hb
  go_wp2_with fail
  refine (HN.out _).mono ?_
  rintro e wc ⟨rfl, n, rfl⟩
  replace hB := below_drewN hB n
  try simp only [World.drewN_drewN] at hB
  go_wp2_with fail
  refine (HC.out _).mono ?_
  rintro e wc ⟨rfl, n, rfl⟩
  replace hB := below_drewN hB n
  try simp only [World.drewN_drewN] at hB
  go_wp2_with fail
  refine (r_IsAbbr _ HM.out _).mono ?_
  rintro e wa ⟨rfl, hb⟩
  replace hB := hB.trans (hb.mono hB.size)
  clear hb
  go_wp2_with fail
  refine (r_outside _ _ _ _).mono ?_
  rintro e w' ⟨rfl, rfl⟩
  go_wp2_with fail
  go_ret2
  exact ⟨rfl, hB⟩
set_option maxRecDepth 100000 in
set_option maxHeartbeats 2000000 in
theorem r_Abbr_n_ok (F letter : ByteArray) (save : Int)  (hF : F.size ≤ 12) (hl : letter.size ≤ maxLen) (hlo : letOk letter = true) (hcc : Lib.countByte F.data.toList 37 + Lib.countByte F.data.toList 47 ≤ 1) (hs : ixB F 47 = -1) (hp : ixB F 37 = -1) (ha : isAbbrB F.data.toList = true) (h2 : 0 ≤ save ∧ save ≤ 10800) (w : World) :
  Calls Tryz.prog 117 #[.string F, .int .i64 save, .string letter] w fun e w' => e = .returned (.tuple #[.string F, .int .i64 0]) ∧ Below w.heap.size w w' := by
 have hB : Below w.heap.size w w := Below.refl _ _
 have hm : F.size ≤ maxLen := by unfold maxLen; omega
 have HM := Lib.hid hm
 have hL := let_cases hlo
 obtain ⟨n37, h37⟩ : ∃ n, Lib.countByte F.data.toList 37 = n := ⟨_, rfl⟩
 obtain ⟨n47, h47⟩ : ∃ n, Lib.countByte F.data.toList 47 = n := ⟨_, rfl⟩
 rw [h37, h47] at hcc
 have HN := Lib.hid (fun w => str_cut_no F 47 hs w)
 have HC := Lib.hid (fun w => str_cut_no F 37 hp w)
 clear hs hp
 have hd : decide (save < 0 ∨ 10800 < save) = false := by simp; omega
 obtain ⟨sa, sb⟩ := abbr_size' ha
 have he := not_empty' sa
 have he' := not_emptyB sa
 clear h2
 clear hm hlo
 rcases hL with hD | ⟨hD, hA⟩
 ·go_enter Tryz.func117, Tryz.ntmps117
  go_wp2_with fail
  refine (Tryz.strings_Count_one F 37 _).mono ?_
  rintro e w' ⟨rfl, rfl⟩
  go_wp2_with fail
  refine (Tryz.strings_Count_one F 47 _).mono ?_
  rintro e w' ⟨rfl, rfl⟩
  go_wp2_with fail
  refine (HN.out _).mono ?_
  rintro e wc ⟨rfl, n, rfl⟩
  replace hB := below_drewN hB n
  try simp only [World.drewN_drewN] at hB
  go_wp2_with fail
  refine (HC.out _).mono ?_
  rintro e wc ⟨rfl, n, rfl⟩
  replace hB := below_drewN hB n
  try simp only [World.drewN_drewN] at hB
  go_wp2_with fail
  refine (r_IsAbbr _ HM.out _).mono ?_
  rintro e wa ⟨rfl, hb⟩
  replace hB := hB.trans (hb.mono hB.size)
  clear hb
  go_wp2_with fail
  refine (r_outside _ _ _ _).mono ?_
  rintro e w' ⟨rfl, rfl⟩
  go_wp2_with fail
  go_ret2
  exact ⟨rfl, hB⟩
 ·go_enter Tryz.func117, Tryz.ntmps117
  go_wp2_with fail
  refine (Tryz.strings_Count_one F 37 _).mono ?_
  rintro e w' ⟨rfl, rfl⟩
  go_wp2_with fail
  refine (Tryz.strings_Count_one F 47 _).mono ?_
  rintro e w' ⟨rfl, rfl⟩
  go_wp2_with fail
  refine (r_IsAbbr _ hl _).mono ?_
  rintro e w1 ⟨rfl, hb⟩
  replace hB := hB.trans (hb.mono hB.size)
  clear hb
  go_wp2_with fail
  refine (HN.out _).mono ?_
  rintro e wc ⟨rfl, n, rfl⟩
  replace hB := below_drewN hB n
  try simp only [World.drewN_drewN] at hB
  go_wp2_with fail
  refine (HC.out _).mono ?_
  rintro e wc ⟨rfl, n, rfl⟩
  replace hB := below_drewN hB n
  try simp only [World.drewN_drewN] at hB
  go_wp2_with fail
  refine (r_IsAbbr _ HM.out _).mono ?_
  rintro e wa ⟨rfl, hb⟩
  replace hB := hB.trans (hb.mono hB.size)
  clear hb
  go_wp2_with fail
  refine (r_outside _ _ _ _).mono ?_
  rintro e w' ⟨rfl, rfl⟩
  go_wp2_with fail
  go_ret2
  exact ⟨rfl, hB⟩
end Go.Proofs.YthppifcggmdmoaaGreatDoor

