/- Part 38 of the proof of BookParses: no condition; what its declarations say stands at each. -/
import Derived.Test.YthppifcggmdmoaaGreatDoorJ37
namespace Go.Proofs.YthppifcggmdmoaaGreatDoor
open Go.RowKit
set_option linter.unusedVariables false
set_option maxRecDepth 100000 in
set_option maxHeartbeats 2000000 in
theorem r_Abbr_s_bad1 (F letter : ByteArray) (save : Int) (k : Nat) (hF : F.size ≤ 12) (hl : letter.size ≤ maxLen) (hlo : letOk letter = true) (hcc : Lib.countByte F.data.toList 37 + Lib.countByte F.data.toList 47 ≤ 1) (hs : ixB F 47 = k) (ha : isAbbrB (cutA F 47).data.toList = false) (w : World) :
  Calls Tryz.prog 117 #[.string F, .int .i64 save, .string letter] w fun e w' => e = .returned (.tuple #[.string ⟨#[]⟩, .int .i64 3]) ∧ Below w.heap.size w w' := by
 have hB : Below w.heap.size w w := Below.refl _ _
 have hm : F.size ≤ maxLen := by unfold maxLen; omega
 have HM := Lib.hid hm
 have hL := let_cases hlo
 obtain ⟨n37, h37⟩ : ∃ n, Lib.countByte F.data.toList 37 = n := ⟨_, rfl⟩
 obtain ⟨n47, h47⟩ : ∃ n, Lib.countByte F.data.toList 47 = n := ⟨_, rfl⟩
 rw [h37, h47] at hcc
 have HN := Lib.hid (fun w => cut_calls HM.out hs w)
 obtain ⟨sa, sb⟩ := cut_sizes' F 47 hF
 have HA := Lib.hid (show (cutA F 47).size ≤ maxLen by unfold maxLen; omega)
 have HB := Lib.hid (show (cutB F 47).size ≤ maxLen by unfold maxLen; omega)
 clear hs
 clear hm hlo
 rcases hL with hD | ⟨hD, hA⟩
 ·go_enter Tryz.func117, Tryz.ntmps117
  go_wp2_with fail
  refine (Tryz.strings_Count_one F 37 _).mono ?_
  rintro e w' ⟨rfl, rfl⟩
  go_wp2_with fail
  refine (Tryz.strings_Count_one F 47 _).mono ?_
  rintro e w' ⟨rfl, rfl⟩
  go_wp2_with fail
  refine (HN.out _).mono ?_
  rintro e wc ⟨rfl, n, rfl⟩
  replace hB := below_drewN hB n
  try simp only [World.drewN_drewN] at hB
  go_wp2_with fail
  refine (r_IsAbbr _ HA.out _).mono ?_
  rintro e wa ⟨rfl, hb⟩
  replace hB := hB.trans (hb.mono hB.size)
  clear hb
  go_wp2_with fail
  go_ret2
  exact ⟨rfl, hB⟩
 ·go_enter Tryz.func117, Tryz.ntmps117
  go_wp2_with fail
  refine (Tryz.strings_Count_one F 37 _).mono ?_
  rintro e w' ⟨rfl, rfl⟩
  go_wp2_with fail
  refine (Tryz.strings_Count_one F 47 _).mono ?_
  rintro e w' ⟨rfl, rfl⟩
  go_wp2_with fail
  refine (r_IsAbbr _ hl _).mono ?_
  rintro e w1 ⟨rfl, hb⟩
  replace hB := hB.trans (hb.mono hB.size)
  clear hb
  go_wp2_with fail
  refine (HN.out _).mono ?_
  rintro e wc ⟨rfl, n, rfl⟩
  replace hB := below_drewN hB n
  try simp only [World.drewN_drewN] at hB
  go_wp2_with fail
  refine (r_IsAbbr _ HA.out _).mono ?_
  rintro e wa ⟨rfl, hb⟩
  replace hB := hB.trans (hb.mono hB.size)
  clear hb
  go_wp2_with fail
  go_ret2
  exact ⟨rfl, hB⟩
set_option maxRecDepth 100000 in
set_option maxHeartbeats 2000000 in
theorem r_Abbr_s_bad2 (F letter : ByteArray) (save : Int) (k : Nat) (hF : F.size ≤ 12) (hl : letter.size ≤ maxLen) (hlo : letOk letter = true) (hcc : Lib.countByte F.data.toList 37 + Lib.countByte F.data.toList 47 ≤ 1) (hs : ixB F 47 = k) (ha : isAbbrB (cutA F 47).data.toList = true) (hb : isAbbrB (cutB F 47).data.toList = false) (w : World) :
  Calls Tryz.prog 117 #[.string F, .int .i64 save, .string letter] w fun e w' => e = .returned (.tuple #[.string ⟨#[]⟩, .int .i64 3]) ∧ Below w.heap.size w w' := by
 have hB : Below w.heap.size w w := Below.refl _ _
 have hm : F.size ≤ maxLen := by unfold maxLen; omega
 have HM := Lib.hid hm
 have hL := let_cases hlo
 obtain ⟨n37, h37⟩ : ∃ n, Lib.countByte F.data.toList 37 = n := ⟨_, rfl⟩
 obtain ⟨n47, h47⟩ : ∃ n, Lib.countByte F.data.toList 47 = n := ⟨_, rfl⟩
 rw [h37, h47] at hcc
 have HN := Lib.hid (fun w => cut_calls HM.out hs w)
 obtain ⟨sa, sb⟩ := cut_sizes' F 47 hF
 have HA := Lib.hid (show (cutA F 47).size ≤ maxLen by unfold maxLen; omega)
 have HB := Lib.hid (show (cutB F 47).size ≤ maxLen by unfold maxLen; omega)
 clear hs
 have hb' := hb
 clear hb
 clear hm hlo
 rcases hL with hD | ⟨hD, hA⟩
 ·go_enter Tryz.func117, Tryz.ntmps117
  go_wp2_with fail
  refine (Tryz.strings_Count_one F 37 _).mono ?_
  rintro e w' ⟨rfl, rfl⟩
  go_wp2_with fail
  refine (Tryz.strings_Count_one F 47 _).mono ?_
  rintro e w' ⟨rfl, rfl⟩
  go_wp2_with fail
  refine (HN.out _).mono ?_
  rintro e wc ⟨rfl, n, rfl⟩
  replace hB := below_drewN hB n
  try simp only [World.drewN_drewN] at hB
  go_wp2_with fail
  refine (r_IsAbbr _ HA.out _).mono ?_
  rintro e wa ⟨rfl, hb⟩
  replace hB := hB.trans (hb.mono hB.size)
  clear hb
  go_wp2_with fail
  refine (r_IsAbbr _ HB.out _).mono ?_
  rintro e wa ⟨rfl, hb⟩
  replace hB := hB.trans (hb.mono hB.size)
  clear hb
  go_wp2_with fail
  go_ret2
  exact ⟨rfl, hB⟩
 ·go_enter Tryz.func117, Tryz.ntmps117
  go_wp2_with fail
  refine (Tryz.strings_Count_one F 37 _).mono ?_
  rintro e w' ⟨rfl, rfl⟩
  go_wp2_with fail
  refine (Tryz.strings_Count_one F 47 _).mono ?_
  rintro e w' ⟨rfl, rfl⟩
  go_wp2_with fail
  refine (r_IsAbbr _ hl _).mono ?_
  rintro e w1 ⟨rfl, hb⟩
  replace hB := hB.trans (hb.mono hB.size)
  clear hb
  go_wp2_with fail
  refine (HN.out _).mono ?_
  rintro e wc ⟨rfl, n, rfl⟩
  replace hB := below_drewN hB n
  try simp only [World.drewN_drewN] at hB
  go_wp2_with fail
  refine (r_IsAbbr _ HA.out _).mono ?_
  rintro e wa ⟨rfl, hb⟩
  replace hB := hB.trans (hb.mono hB.size)
  clear hb
  go_wp2_with fail
  refine (r_IsAbbr _ HB.out _).mono ?_
  rintro e wa ⟨rfl, hb⟩
  replace hB := hB.trans (hb.mono hB.size)
  clear hb
  go_wp2_with fail
  go_ret2
  exact ⟨rfl, hB⟩
set_option maxRecDepth 100000 in
set_option maxHeartbeats 2000000 in
theorem r_Abbr_s_save (F letter : ByteArray) (save : Int) (k : Nat) (hF : F.size ≤ 12) (hl : letter.size ≤ maxLen) (hlo : letOk letter = true) (hcc : Lib.countByte F.data.toList 37 + Lib.countByte F.data.toList 47 ≤ 1) (hs : ixB F 47 = k) (ha : isAbbrB (cutA F 47).data.toList = true) (hb : isAbbrB (cutB F 47).data.toList = true) (h2 : ¬ (0 ≤ save ∧ save ≤ 10800)) (w : World) :
  Calls Tryz.prog 117 #[.string F, .int .i64 save, .string letter] w fun e w' => e = .returned (.tuple #[.string ⟨#[]⟩, .int .i64 1]) ∧ Below w.heap.size w w' := by
 have hB : Below w.heap.size w w := Below.refl _ _
 have hm : F.size ≤ maxLen := by unfold maxLen; omega
 have HM := Lib.hid hm
 have hL := let_cases hlo
 obtain ⟨n37, h37⟩ : ∃ n, Lib.countByte F.data.toList 37 = n := ⟨_, rfl⟩
 obtain ⟨n47, h47⟩ : ∃ n, Lib.countByte F.data.toList 47 = n := ⟨_, rfl⟩
 rw [h37, h47] at hcc
 have HN := Lib.hid (fun w => cut_calls HM.out hs w)
 obtain ⟨sa, sb⟩ := cut_sizes' F 47 hF
 have HA := Lib.hid (show (cutA F 47).size ≤ maxLen by unfold maxLen; omega)
 have HB := Lib.hid (show (cutB F 47).size ≤ maxLen by unfold maxLen; omega)
 clear hs
 have hb' := hb
 clear hb
 have hd : decide (save < 0 ∨ 10800 < save) = true := by simp; omega
 have hs0 : (save != 0) = true := by rw [bne_iff_ne]; omega
 clear h2
 clear hm hlo
 rcases hL with hD | ⟨hD, hA⟩
 ·go_enter Tryz.func117, Tryz.ntmps117
  go_wp2_with fail
  refine (Tryz.strings_Count_one F 37 _).mono ?_
  rintro e w' ⟨rfl, rfl⟩
  go_wp2_with fail
  refine (Tryz.strings_Count_one F 47 _).mono ?_
  rintro e w' ⟨rfl, rfl⟩
  go_wp2_with fail
  refine (HN.out _).mono ?_
  rintro e wc ⟨rfl, n, rfl⟩
  replace hB := below_drewN hB n
  try simp only [World.drewN_drewN] at hB
  go_wp2_with fail
  refine (r_IsAbbr _ HA.out _).mono ?_
  rintro e wa ⟨rfl, hb⟩
  replace hB := hB.trans (hb.mono hB.size)
  clear hb
  go_wp2_with fail
  refine (r_IsAbbr _ HB.out _).mono ?_
  rintro e wa ⟨rfl, hb⟩
  replace hB := hB.trans (hb.mono hB.size)
  clear hb
  go_wp2_with fail
  refine (r_outside _ _ _ _).mono ?_
  rintro e w' ⟨rfl, rfl⟩
  go_wp2_with fail
  go_ret2
  exact ⟨rfl, hB⟩
 ·go_enter Tryz.func117, Tryz.ntmps117
  go_wp2_with fail
  refine (Tryz.strings_Count_one F 37 _).mono ?_
  rintro e w' ⟨rfl, rfl⟩
  go_wp2_with fail
  refine (Tryz.strings_Count_one F 47 _).mono ?_
  rintro e w' ⟨rfl, rfl⟩
  go_wp2_with fail
  refine (r_IsAbbr _ hl _).mono ?_
  rintro e w1 ⟨rfl, hb⟩
  replace hB := hB.trans (hb.mono hB.size)
  clear hb
  go_wp2_with fail
  refine (HN.out _).mono ?_
  rintro e wc ⟨rfl, n, rfl⟩
  replace hB := below_drewN hB n
  try simp only [World.drewN_drewN] at hB
  go_wp2_with fail
  refine (r_IsAbbr _ HA.out _).mono ?_
  rintro e wa ⟨rfl, hb⟩
  replace hB := hB.trans (hb.mono hB.size)
  clear hb
  go_wp2_with fail
  refine (r_IsAbbr _ HB.out _).mono ?_
  rintro e wa ⟨rfl, hb⟩
  replace hB := hB.trans (hb.mono hB.size)
  clear hb
  go_wp2_with fail
  refine (r_outside _ _ _ _).mono ?_
  rintro e w' ⟨rfl, rfl⟩
  go_wp2_with fail
  go_ret2
  exact ⟨rfl, hB⟩
end Go.Proofs.YthppifcggmdmoaaGreatDoor

namespace Go.Proofs.YthppifcggmdmoaaGreatDoor
open Go.RowKit
set_option linter.unusedVariables false
set_option maxRecDepth 100000 in
set_option maxHeartbeats 2000000 in
theorem r_Abbr_s_ok0 (F letter : ByteArray) (save : Int) (k : Nat) (hF : F.size ≤ 12) (hl : letter.size ≤ maxLen) (hlo : letOk letter = true) (hcc : Lib.countByte F.data.toList 37 + Lib.countByte F.data.toList 47 ≤ 1) (hs : ixB F 47 = k) (ha : isAbbrB (cutA F 47).data.toList = true) (hb : isAbbrB (cutB F 47).data.toList = true) (h2 : save = 0) (w : World) :
  Calls Tryz.prog 117 #[.string F, .int .i64 save, .string letter] w fun e w' => e = .returned (.tuple #[.string (cutA F 47), .int .i64 0]) ∧ Below w.heap.size w w' := by
 have hB : Below w.heap.size w w := Below.refl _ _
 have hm : F.size ≤ maxLen := by unfold maxLen; omega
 have HM := Lib.hid hm
 have hL := let_cases hlo
 obtain ⟨n37, h37⟩ : ∃ n, Lib.countByte F.data.toList 37 = n := ⟨_, rfl⟩
 obtain ⟨n47, h47⟩ : ∃ n, Lib.countByte F.data.toList 47 = n := ⟨_, rfl⟩
 rw [h37, h47] at hcc
 have HN := Lib.hid (fun w => cut_calls HM.out hs w)
 obtain ⟨sa, sb⟩ := cut_sizes' F 47 hF
 have HA := Lib.hid (show (cutA F 47).size ≤ maxLen by unfold maxLen; omega)
 have HB := Lib.hid (show (cutB F 47).size ≤ maxLen by unfold maxLen; omega)
 clear hs
 obtain ⟨s1, s2⟩ := abbr_size' ha
 have he := not_empty' s1
 have he' := not_emptyB s1
 have hb' := hb
 clear hb
 subst h2
 have hd : decide ((0 : Int) < 0 ∨ 10800 < (0 : Int)) = false := by simp
 clear hm hlo
 rcases hL with hD | ⟨hD, hA⟩
 ·go_enter Tryz.func117, Tryz.ntmps117
  go_wp2_with fail
  refine (Tryz.strings_Count_one F 37 _).mono ?_
  rintro e w' ⟨rfl, rfl⟩
  go_wp2_with fail
  refine (Tryz.strings_Count_one F 47 _).mono ?_
  rintro e w' ⟨rfl, rfl⟩
  go_wp2_with fail
  refine (HN.out _).mono ?_
  rintro e wc ⟨rfl, n, rfl⟩
  replace hB := below_drewN hB n
  try simp only [World.drewN_drewN] at hB
  go_wp2_with fail
  refine (r_IsAbbr _ HA.out _).mono ?_
  rintro e wa ⟨rfl, hb⟩
  replace hB := hB.trans (hb.mono hB.size)
  clear hb
  go_wp2_with fail
  refine (r_IsAbbr _ HB.out _).mono ?_
  rintro e wa ⟨rfl, hb⟩
  replace hB := hB.trans (hb.mono hB.size)
  clear hb
  go_wp2_with fail
  refine (r_outside _ _ _ _).mono ?_
  rintro e w' ⟨rfl, rfl⟩
  go_wp2_with fail
  go_ret2
  exact ⟨rfl, hB⟩
 ·go_enter Tryz.func117, Tryz.ntmps117
  go_wp2_with fail
  refine (Tryz.strings_Count_one F 37 _).mono ?_
  rintro e w' ⟨rfl, rfl⟩
  go_wp2_with fail
  refine (Tryz.strings_Count_one F 47 _).mono ?_
  rintro e w' ⟨rfl, rfl⟩
  go_wp2_with fail
  refine (r_IsAbbr _ hl _).mono ?_
  rintro e w1 ⟨rfl, hb⟩
  replace hB := hB.trans (hb.mono hB.size)
  clear hb
  go_wp2_with fail
  refine (HN.out _).mono ?_
  rintro e wc ⟨rfl, n, rfl⟩
  replace hB := below_drewN hB n
  try simp only [World.drewN_drewN] at hB
  go_wp2_with fail
  refine (r_IsAbbr _ HA.out _).mono ?_
  rintro e wa ⟨rfl, hb⟩
  replace hB := hB.trans (hb.mono hB.size)
  clear hb
  go_wp2_with fail
  refine (r_IsAbbr _ HB.out _).mono ?_
  rintro e wa ⟨rfl, hb⟩
  replace hB := hB.trans (hb.mono hB.size)
  clear hb
  go_wp2_with fail
  refine (r_outside _ _ _ _).mono ?_
  rintro e w' ⟨rfl, rfl⟩
  go_wp2_with fail
  go_ret2
  exact ⟨rfl, hB⟩
set_option maxRecDepth 100000 in
set_option maxHeartbeats 2000000 in
theorem r_Abbr_s_ok1 (F letter : ByteArray) (save : Int) (k : Nat) (hF : F.size ≤ 12) (hl : letter.size ≤ maxLen) (hlo : letOk letter = true) (hcc : Lib.countByte F.data.toList 37 + Lib.countByte F.data.toList 47 ≤ 1) (hs : ixB F 47 = k) (ha : isAbbrB (cutA F 47).data.toList = true) (hb : isAbbrB (cutB F 47).data.toList = true) (h2 : 0 ≤ save ∧ save ≤ 10800) (h3 : save ≠ 0) (w : World) :
  Calls Tryz.prog 117 #[.string F, .int .i64 save, .string letter] w fun e w' => e = .returned (.tuple #[.string (cutB F 47), .int .i64 0]) ∧ Below w.heap.size w w' := by
 have hB : Below w.heap.size w w := Below.refl _ _
 have hm : F.size ≤ maxLen := by unfold maxLen; omega
 have HM := Lib.hid hm
 have hL := let_cases hlo
 obtain ⟨n37, h37⟩ : ∃ n, Lib.countByte F.data.toList 37 = n := ⟨_, rfl⟩
 obtain ⟨n47, h47⟩ : ∃ n, Lib.countByte F.data.toList 47 = n := ⟨_, rfl⟩
 rw [h37, h47] at hcc
 have HN := Lib.hid (fun w => cut_calls HM.out hs w)
 obtain ⟨sa, sb⟩ := cut_sizes' F 47 hF
 have HA := Lib.hid (show (cutA F 47).size ≤ maxLen by unfold maxLen; omega)
 have HB := Lib.hid (show (cutB F 47).size ≤ maxLen by unfold maxLen; omega)
 clear hs
 obtain ⟨s1, s2⟩ := abbr_size' hb
 have he := not_empty' s1
 have he' := not_emptyB s1
 have hb' := hb
 clear hb
 have hd : decide (save < 0 ∨ 10800 < save) = false := by simp; omega
 have hs0 : (save != 0) = true := by rw [bne_iff_ne]; exact h3
 clear h2 h3
 clear hm hlo
 rcases hL with hD | ⟨hD, hA⟩
 ·go_enter Tryz.func117, Tryz.ntmps117
  go_wp2_with fail
  refine (Tryz.strings_Count_one F 37 _).mono ?_
  rintro e w' ⟨rfl, rfl⟩
  go_wp2_with fail
  refine (Tryz.strings_Count_one F 47 _).mono ?_
  rintro e w' ⟨rfl, rfl⟩
  go_wp2_with fail
  refine (HN.out _).mono ?_
  rintro e wc ⟨rfl, n, rfl⟩
  replace hB := below_drewN hB n
  try simp only [World.drewN_drewN] at hB
  go_wp2_with fail
  refine (r_IsAbbr _ HA.out _).mono ?_
  rintro e wa ⟨rfl, hb⟩
  replace hB := hB.trans (hb.mono hB.size)
  clear hb
  go_wp2_with fail
  refine (r_IsAbbr _ HB.out _).mono ?_
  rintro e wa ⟨rfl, hb⟩
  replace hB := hB.trans (hb.mono hB.size)
  clear hb
  go_wp2_with fail
  refine (r_outside _ _ _ _).mono ?_
  rintro e w' ⟨rfl, rfl⟩
  go_wp2_with fail
  go_ret2
  exact ⟨rfl, hB⟩
 ·go_enter Tryz.func117, Tryz.ntmps117
  go_wp2_with fail
  refine (Tryz.strings_Count_one F 37 _).mono ?_
  rintro e w' ⟨rfl, rfl⟩
  go_wp2_with fail
  refine (Tryz.strings_Count_one F 47 _).mono ?_
  rintro e w' ⟨rfl, rfl⟩
  go_wp2_with fail
  refine (r_IsAbbr _ hl _).mono ?_
  rintro e w1 ⟨rfl, hb⟩
  replace hB := hB.trans (hb.mono hB.size)
  clear hb
  go_wp2_with fail
  refine (HN.out _).mono ?_
  rintro e wc ⟨rfl, n, rfl⟩
  replace hB := below_drewN hB n
  try simp only [World.drewN_drewN] at hB
  go_wp2_with fail
  refine (r_IsAbbr _ HA.out _).mono ?_
  rintro e wa ⟨rfl, hb⟩
  replace hB := hB.trans (hb.mono hB.size)
  clear hb
  go_wp2_with fail
  refine (r_IsAbbr _ HB.out _).mono ?_
  rintro e wa ⟨rfl, hb⟩
  replace hB := hB.trans (hb.mono hB.size)
  clear hb
  go_wp2_with fail
  refine (r_outside _ _ _ _).mono ?_
  rintro e w' ⟨rfl, rfl⟩
  go_wp2_with fail
  go_ret2
  exact ⟨rfl, hB⟩
end Go.Proofs.YthppifcggmdmoaaGreatDoor

namespace Go.Proofs.YthppifcggmdmoaaGreatDoor
open Go.RowKit
set_option linter.unusedVariables false
set_option maxRecDepth 100000 in
set_option maxHeartbeats 2000000 in
theorem r_Abbr_p_bad_d (F letter : ByteArray) (save : Int) (k : Nat) (hF : F.size ≤ 12) (hl : letter.size ≤ maxLen) (hD : (letter.toList == [45]) = true) (hcc : Lib.countByte F.data.toList 37 + Lib.countByte F.data.toList 47 ≤ 1) (hs : ixB F 47 = -1) (hk : ixB F 37 = k) (hE : 1 ≤ (cutA F 37 ++ cutB F 37).size) (ha : isAbbrB (cutA F 37 ++ cutB F 37).data.toList = false) (w : World) :
  Calls Tryz.prog 117 #[.string F, .int .i64 save, .string letter] w fun e w' => e = .returned (.tuple #[.string ⟨#[]⟩, .int .i64 3]) ∧ Below w.heap.size w w' := by
 have hB : Below w.heap.size w w := Below.refl _ _
 have hm : F.size ≤ maxLen := by unfold maxLen; omega
 have HM := Lib.hid hm
 obtain ⟨n37, h37⟩ : ∃ n, Lib.countByte F.data.toList 37 = n := ⟨_, rfl⟩
 obtain ⟨n47, h47⟩ : ∃ n, Lib.countByte F.data.toList 47 = n := ⟨_, rfl⟩
 rw [h37, h47] at hcc
 have HN := Lib.hid (fun w => str_cut_no F 47 hs w)
 have HC := Lib.hid (fun w => cut_calls HM.out hk w)
 obtain ⟨sa, sb⟩ := cut_sizes' F 37 hF
 have HA := Lib.hid (show (cutA F 37 ++ cutB F 37).size ≤ maxLen by rw [ByteArray.size_append]; unfold maxLen; omega)
 clear hs hk
 have he := not_empty' hE
 have he' := not_emptyB hE
 clear hE
 obtain ⟨q, hq⟩ : ∃ q, cutA F 37 ++ cutB F 37 = q := ⟨_, rfl⟩
 rw [hq] at ha HA he he'
 clear hm
 go_enter Tryz.func117, Tryz.ntmps117
 go_wp2_with fail
 refine (Tryz.strings_Count_one F 37 _).mono ?_
 rintro e w' ⟨rfl, rfl⟩
 go_wp2_with fail
 refine (Tryz.strings_Count_one F 47 _).mono ?_
 rintro e w' ⟨rfl, rfl⟩
 go_wp2_with fail
 refine (HN.out _).mono ?_
 rintro e wc ⟨rfl, n, rfl⟩
 replace hB := below_drewN hB n
 try simp only [World.drewN_drewN] at hB
 go_wp2_with fail
 refine (HC.out _).mono ?_
 rintro e wc ⟨rfl, n, rfl⟩
 replace hB := below_drewN hB n
 try simp only [World.drewN_drewN] at hB
 go_wp2_with fail
 refine (r_IsAbbr _ HA.out _).mono ?_
 rintro e wa ⟨rfl, hb⟩
 replace hB := hB.trans (hb.mono hB.size)
 clear hb
 go_wp2_with fail
 go_ret2
 exact ⟨rfl, hB⟩
set_option maxRecDepth 100000 in
set_option maxHeartbeats 2000000 in
theorem r_Abbr_p_bad_l (F letter : ByteArray) (save : Int) (k : Nat) (hF : F.size ≤ 12) (hl : letter.size ≤ maxLen) (hD : (letter.toList == [45]) = false) (hA : isAbbrB letter.data.toList = true) (hcc : Lib.countByte F.data.toList 37 + Lib.countByte F.data.toList 47 ≤ 1) (hs : ixB F 47 = -1) (hk : ixB F 37 = k) (hE : 1 ≤ (cutA F 37 ++ cutB F 37).size) (ha : isAbbrB (cutA F 37 ++ cutB F 37).data.toList = false) (w : World) :
  Calls Tryz.prog 117 #[.string F, .int .i64 save, .string letter] w fun e w' => e = .returned (.tuple #[.string ⟨#[]⟩, .int .i64 3]) ∧ Below w.heap.size w w' := by
 have hB : Below w.heap.size w w := Below.refl _ _
 have hm : F.size ≤ maxLen := by unfold maxLen; omega
 have HM := Lib.hid hm
 obtain ⟨n37, h37⟩ : ∃ n, Lib.countByte F.data.toList 37 = n := ⟨_, rfl⟩
 obtain ⟨n47, h47⟩ : ∃ n, Lib.countByte F.data.toList 47 = n := ⟨_, rfl⟩
 rw [h37, h47] at hcc
 have HN := Lib.hid (fun w => str_cut_no F 47 hs w)
 have HC := Lib.hid (fun w => cut_calls HM.out hk w)
 obtain ⟨sa, sb⟩ := cut_sizes' F 37 hF
 have HA := Lib.hid (show (cutA F 37 ++ cutB F 37).size ≤ maxLen by rw [ByteArray.size_append]; unfold maxLen; omega)
 clear hs hk
 have he := not_empty' hE
 have he' := not_emptyB hE
 clear hE
 obtain ⟨q, hq⟩ : ∃ q, cutA F 37 ++ cutB F 37 = q := ⟨_, rfl⟩
 rw [hq] at ha HA he he'
 obtain ⟨sl1, sl2⟩ := abbr_size' hA
 clear hm
 go_enter Tryz.func117, Tryz.ntmps117
 go_wp2_with fail
 refine (Tryz.strings_Count_one F 37 _).mono ?_
 rintro e w' ⟨rfl, rfl⟩
 go_wp2_with fail
 refine (Tryz.strings_Count_one F 47 _).mono ?_
 rintro e w' ⟨rfl, rfl⟩
 go_wp2_with fail
 refine (r_IsAbbr _ hl _).mono ?_
 rintro e w1 ⟨rfl, hb⟩
 replace hB := hB.trans (hb.mono hB.size)
 clear hb
 go_wp2_with fail
 refine (HN.out _).mono ?_
 rintro e wc ⟨rfl, n, rfl⟩
 replace hB := below_drewN hB n
 try simp only [World.drewN_drewN] at hB
 go_wp2_with fail
 refine (HC.out _).mono ?_
 rintro e wc ⟨rfl, n, rfl⟩
 replace hB := below_drewN hB n
 try simp only [World.drewN_drewN] at hB
 go_wp2_with fail
 refine (r_IsAbbr _ HA.out _).mono ?_
 rintro e wa ⟨rfl, hb⟩
 replace hB := hB.trans (hb.mono hB.size)
 clear hb
 go_wp2_with fail
 go_ret2
 exact ⟨rfl, hB⟩
end Go.Proofs.YthppifcggmdmoaaGreatDoor

