/- Walk of the reference's Abbr: a format with a place for a letter, and a letter. -/
import Derived.Test.YtanaoohgpdcfjaaGreatDoorAbbrR
namespace Go.Proofs.YtanaoohgpdcfjaaGreatDoor
open Go.RowKit
set_option linter.unusedVariables false
set_option maxRecDepth 100000 in
set_option maxHeartbeats 2000000 in
theorem r_Abbr_p_save_le (F letter : ByteArray) (save : Int) (k : Nat) (hF : F.size ≤ 12) (hl : letter.size ≤ maxLen) (hD : (letter.toList == [45]) = false) (hA : isAbbrB letter.data.toList = true) (hcc : Lib.countByte F.data.toList 37 + Lib.countByte F.data.toList 47 ≤ 1) (hs : ixB F 47 = -1) (hk : ixB F 37 = k) (hE : (cutA F 37 ++ cutB F 37).size = 0) (h2 : ¬ (0 ≤ save ∧ save ≤ 10800)) (w : World) :
    Calls Tryz.prog 94 #[.string F, .int .i64 save, .string letter] w fun e w' => e = .returned (.tuple #[.string ⟨#[]⟩, .int .i64 1]) ∧ Below w.heap.size w w' := by
  have hB : Below w.heap.size w w := Below.refl _ _
  have hm : F.size ≤ maxLen := by unfold maxLen; omega
  have HM := Lib.hid hm
  obtain ⟨n37, h37⟩ : ∃ n, Lib.countByte F.data.toList 37 = n := ⟨_, rfl⟩
  obtain ⟨n47, h47⟩ : ∃ n, Lib.countByte F.data.toList 47 = n := ⟨_, rfl⟩
  rw [h37, h47] at hcc
  have HN := Lib.hid (fun w => str_cut_no F 47 hs w)
  have HC := Lib.hid (fun w => cut_calls HM.out hk w)
  obtain ⟨sa, sb⟩ := cut_sizes' F 37 hF
  have HA := Lib.hid (show (cutA F 37 ++ cutB F 37).size ≤ maxLen by rw [ByteArray.size_append]; unfold maxLen; omega)
  clear hs hk
  have he := is_empty' hE
  have he' := is_emptyB hE
  clear hE
  have hd : decide (save < 0 ∨ 10800 < save) = true := by simp; omega
  clear h2
  obtain ⟨sl1, sl2⟩ := abbr_size' hA
  clear hm
  go_enter Tryz.func94, Tryz.ntmps94
  go_wp2_with fail
  refine (Tryz.strings_Count_one F 37 _).mono ?_
  rintro e w' ⟨rfl, rfl⟩
  go_wp2_with fail
  refine (Tryz.strings_Count_one F 47 _).mono ?_
  rintro e w' ⟨rfl, rfl⟩
  go_wp2_with fail
  refine (r_IsAbbr _ hl _).mono ?_
  rintro e w1 ⟨rfl, hb⟩
  replace hB := hB.trans (hb.mono hB.size)
  clear hb
  go_wp2_with fail
  refine (HN.out _).mono ?_
  rintro e wc ⟨rfl, n, rfl⟩
  replace hB := below_drewN hB n
  try simp only [World.drewN_drewN] at hB
  go_wp2_with fail
  refine (HC.out _).mono ?_
  rintro e wc ⟨rfl, n, rfl⟩
  replace hB := below_drewN hB n
  try simp only [World.drewN_drewN] at hB
  go_wp2_with fail
  refine (r_outside _ _ _ _).mono ?_
  rintro e w' ⟨rfl, rfl⟩
  go_wp2_with fail
  go_ret2
  exact ⟨rfl, hB⟩
set_option maxRecDepth 100000 in
set_option maxHeartbeats 2000000 in
theorem r_Abbr_p_2_le (F letter : ByteArray) (save : Int) (k : Nat) (hF : F.size ≤ 12) (hl : letter.size ≤ maxLen) (hD : (letter.toList == [45]) = false) (hA : isAbbrB letter.data.toList = true) (hcc : Lib.countByte F.data.toList 37 + Lib.countByte F.data.toList 47 ≤ 1) (hs : ixB F 47 = -1) (hk : ixB F 37 = k) (hE : (cutA F 37 ++ cutB F 37).size = 0) (h2 : 0 ≤ save ∧ save ≤ 10800) (h3 : 8 < (cutA F 37).size + letter.size + (cutB F 37).size) (w : World) :
    Calls Tryz.prog 94 #[.string F, .int .i64 save, .string letter] w fun e w' => e = .returned (.tuple #[.string ⟨#[]⟩, .int .i64 2]) ∧ Below w.heap.size w w' := by
  have hB : Below w.heap.size w w := Below.refl _ _
  have hm : F.size ≤ maxLen := by unfold maxLen; omega
  have HM := Lib.hid hm
  obtain ⟨n37, h37⟩ : ∃ n, Lib.countByte F.data.toList 37 = n := ⟨_, rfl⟩
  obtain ⟨n47, h47⟩ : ∃ n, Lib.countByte F.data.toList 47 = n := ⟨_, rfl⟩
  rw [h37, h47] at hcc
  have HN := Lib.hid (fun w => str_cut_no F 47 hs w)
  have HC := Lib.hid (fun w => cut_calls HM.out hk w)
  obtain ⟨sa, sb⟩ := cut_sizes' F 37 hF
  have HA := Lib.hid (show (cutA F 37 ++ cutB F 37).size ≤ maxLen by rw [ByteArray.size_append]; unfold maxLen; omega)
  clear hs hk
  have he := is_empty' hE
  have he' := is_emptyB hE
  clear hE
  have hd : decide (save < 0 ∨ 10800 < save) = false := by simp; omega
  clear h2
  obtain ⟨sl1, sl2⟩ := abbr_size' hA
  clear hm
  go_enter Tryz.func94, Tryz.ntmps94
  go_wp2_with fail
  refine (Tryz.strings_Count_one F 37 _).mono ?_
  rintro e w' ⟨rfl, rfl⟩
  go_wp2_with fail
  refine (Tryz.strings_Count_one F 47 _).mono ?_
  rintro e w' ⟨rfl, rfl⟩
  go_wp2_with fail
  refine (r_IsAbbr _ hl _).mono ?_
  rintro e w1 ⟨rfl, hb⟩
  replace hB := hB.trans (hb.mono hB.size)
  clear hb
  go_wp2_with fail
  refine (HN.out _).mono ?_
  rintro e wc ⟨rfl, n, rfl⟩
  replace hB := below_drewN hB n
  try simp only [World.drewN_drewN] at hB
  go_wp2_with fail
  refine (HC.out _).mono ?_
  rintro e wc ⟨rfl, n, rfl⟩
  replace hB := below_drewN hB n
  try simp only [World.drewN_drewN] at hB
  go_wp2_with fail
  refine (r_outside _ _ _ _).mono ?_
  rintro e w' ⟨rfl, rfl⟩
  go_wp2_with fail
  go_ret2
  exact ⟨rfl, hB⟩
set_option maxRecDepth 100000 in
set_option maxHeartbeats 2000000 in
theorem r_Abbr_p_ok_le (F letter : ByteArray) (save : Int) (k : Nat) (hF : F.size ≤ 12) (hl : letter.size ≤ maxLen) (hD : (letter.toList == [45]) = false) (hA : isAbbrB letter.data.toList = true) (hcc : Lib.countByte F.data.toList 37 + Lib.countByte F.data.toList 47 ≤ 1) (hs : ixB F 47 = -1) (hk : ixB F 37 = k) (hE : (cutA F 37 ++ cutB F 37).size = 0) (h2 : 0 ≤ save ∧ save ≤ 10800) (h3 : (cutA F 37).size + letter.size + (cutB F 37).size ≤ 8) (h4 : 1 ≤ (cutA F 37 ++ letter ++ cutB F 37).size) (w : World) :
    Calls Tryz.prog 94 #[.string F, .int .i64 save, .string letter] w fun e w' => e = .returned (.tuple #[.string (cutA F 37 ++ letter ++ cutB F 37), .int .i64 0]) ∧ Below w.heap.size w w' := by
  have hB : Below w.heap.size w w := Below.refl _ _
  have hm : F.size ≤ maxLen := by unfold maxLen; omega
  have HM := Lib.hid hm
  obtain ⟨n37, h37⟩ : ∃ n, Lib.countByte F.data.toList 37 = n := ⟨_, rfl⟩
  obtain ⟨n47, h47⟩ : ∃ n, Lib.countByte F.data.toList 47 = n := ⟨_, rfl⟩
  rw [h37, h47] at hcc
  have HN := Lib.hid (fun w => str_cut_no F 47 hs w)
  have HC := Lib.hid (fun w => cut_calls HM.out hk w)
  obtain ⟨sa, sb⟩ := cut_sizes' F 37 hF
  have HA := Lib.hid (show (cutA F 37 ++ cutB F 37).size ≤ maxLen by rw [ByteArray.size_append]; unfold maxLen; omega)
  clear hs hk
  have he := is_empty' hE
  have he' := is_emptyB hE
  clear hE
  have hd : decide (save < 0 ∨ 10800 < save) = false := by simp; omega
  clear h2
  have ho := not_empty' h4
  have ho' := not_emptyB h4
  clear h4
  obtain ⟨sl1, sl2⟩ := abbr_size' hA
  clear hm
  go_enter Tryz.func94, Tryz.ntmps94
  go_wp2_with fail
  refine (Tryz.strings_Count_one F 37 _).mono ?_
  rintro e w' ⟨rfl, rfl⟩
  go_wp2_with fail
  refine (Tryz.strings_Count_one F 47 _).mono ?_
  rintro e w' ⟨rfl, rfl⟩
  go_wp2_with fail
  refine (r_IsAbbr _ hl _).mono ?_
  rintro e w1 ⟨rfl, hb⟩
  replace hB := hB.trans (hb.mono hB.size)
  clear hb
  go_wp2_with fail
  refine (HN.out _).mono ?_
  rintro e wc ⟨rfl, n, rfl⟩
  replace hB := below_drewN hB n
  try simp only [World.drewN_drewN] at hB
  go_wp2_with fail
  refine (HC.out _).mono ?_
  rintro e wc ⟨rfl, n, rfl⟩
  replace hB := below_drewN hB n
  try simp only [World.drewN_drewN] at hB
  go_wp2_with fail
  refine (r_outside _ _ _ _).mono ?_
  rintro e w' ⟨rfl, rfl⟩
  go_wp2_with fail
  go_ret2
  exact ⟨rfl, hB⟩
end Go.Proofs.YtanaoohgpdcfjaaGreatDoor
