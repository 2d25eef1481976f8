/- Walk of the reference's Abbr: a format without sign. -/
import Derived.Test.YtanaoohgpdcfjaaGreatDoorAbbrR
namespace Go.Proofs.YtanaoohgpdcfjaaGreatDoor
open Go.RowKit
set_option linter.unusedVariables false
set_option maxRecDepth 100000 in
set_option maxHeartbeats 2000000 in
theorem r_Abbr_n_bad (F letter : ByteArray) (save : Int)  (hF : F.size ≤ 12) (hl : letter.size ≤ maxLen) (hlo : letOk letter = true) (hcc : Lib.countByte F.data.toList 37 + Lib.countByte F.data.toList 47 ≤ 1) (hs : ixB F 47 = -1) (hp : ixB F 37 = -1) (ha : isAbbrB F.data.toList = false) (w : World) :
    Calls Tryz.prog 94 #[.string F, .int .i64 save, .string letter] w fun e w' => e = .returned (.tuple #[.string ⟨#[]⟩, .int .i64 3]) ∧ Below w.heap.size w w' := by
  have hB : Below w.heap.size w w := Below.refl _ _
  have hm : F.size ≤ maxLen := by unfold maxLen; omega
  have HM := Lib.hid hm
  have hL := let_cases hlo
  obtain ⟨n37, h37⟩ : ∃ n, Lib.countByte F.data.toList 37 = n := ⟨_, rfl⟩
  obtain ⟨n47, h47⟩ : ∃ n, Lib.countByte F.data.toList 47 = n := ⟨_, rfl⟩
  rw [h37, h47] at hcc
  have HN := Lib.hid (fun w => str_cut_no F 47 hs w)
  have HC := Lib.hid (fun w => str_cut_no F 37 hp w)
  clear hs hp
  clear hm hlo
  rcases hL with hD | ⟨hD, hA⟩
  · go_enter Tryz.func94, Tryz.ntmps94
    go_wp2_with fail
    refine (Tryz.strings_Count_one F 37 _).mono ?_
    rintro e w' ⟨rfl, rfl⟩
    go_wp2_with fail
    refine (Tryz.strings_Count_one F 47 _).mono ?_
    rintro e w' ⟨rfl, rfl⟩
    go_wp2_with fail
    refine (HN.out _).mono ?_
    rintro e wc ⟨rfl, n, rfl⟩
    replace hB := below_drewN hB n
    try simp only [World.drewN_drewN] at hB
    go_wp2_with fail
    refine (HC.out _).mono ?_
    rintro e wc ⟨rfl, n, rfl⟩
    replace hB := below_drewN hB n
    try simp only [World.drewN_drewN] at hB
    go_wp2_with fail
    refine (r_IsAbbr _ HM.out _).mono ?_
    rintro e wa ⟨rfl, hb⟩
    replace hB := hB.trans (hb.mono hB.size)
    clear hb
    go_wp2_with fail
    go_ret2
    exact ⟨rfl, hB⟩
  · go_enter Tryz.func94, Tryz.ntmps94
    go_wp2_with fail
    refine (Tryz.strings_Count_one F 37 _).mono ?_
    rintro e w' ⟨rfl, rfl⟩
    go_wp2_with fail
    refine (Tryz.strings_Count_one F 47 _).mono ?_
    rintro e w' ⟨rfl, rfl⟩
    go_wp2_with fail
    refine (r_IsAbbr _ hl _).mono ?_
    rintro e w1 ⟨rfl, hb⟩
    replace hB := hB.trans (hb.mono hB.size)
    clear hb
    go_wp2_with fail
    refine (HN.out _).mono ?_
    rintro e wc ⟨rfl, n, rfl⟩
    replace hB := below_drewN hB n
    try simp only [World.drewN_drewN] at hB
    go_wp2_with fail
    refine (HC.out _).mono ?_
    rintro e wc ⟨rfl, n, rfl⟩
    replace hB := below_drewN hB n
    try simp only [World.drewN_drewN] at hB
    go_wp2_with fail
    refine (r_IsAbbr _ HM.out _).mono ?_
    rintro e wa ⟨rfl, hb⟩
    replace hB := hB.trans (hb.mono hB.size)
    clear hb
    go_wp2_with fail
    go_ret2
    exact ⟨rfl, hB⟩
set_option maxRecDepth 100000 in
set_option maxHeartbeats 2000000 in
theorem r_Abbr_n_save (F letter : ByteArray) (save : Int)  (hF : F.size ≤ 12) (hl : letter.size ≤ maxLen) (hlo : letOk letter = true) (hcc : Lib.countByte F.data.toList 37 + Lib.countByte F.data.toList 47 ≤ 1) (hs : ixB F 47 = -1) (hp : ixB F 37 = -1) (ha : isAbbrB F.data.toList = true) (h2 : ¬ (0 ≤ save ∧ save ≤ 10800)) (w : World) :
    Calls Tryz.prog 94 #[.string F, .int .i64 save, .string letter] w fun e w' => e = .returned (.tuple #[.string ⟨#[]⟩, .int .i64 1]) ∧ Below w.heap.size w w' := by
  have hB : Below w.heap.size w w := Below.refl _ _
  have hm : F.size ≤ maxLen := by unfold maxLen; omega
  have HM := Lib.hid hm
  have hL := let_cases hlo
  obtain ⟨n37, h37⟩ : ∃ n, Lib.countByte F.data.toList 37 = n := ⟨_, rfl⟩
  obtain ⟨n47, h47⟩ : ∃ n, Lib.countByte F.data.toList 47 = n := ⟨_, rfl⟩
  rw [h37, h47] at hcc
  have HN := Lib.hid (fun w => str_cut_no F 47 hs w)
  have HC := Lib.hid (fun w => str_cut_no F 37 hp w)
  clear hs hp
  have hd : decide (save < 0 ∨ 10800 < save) = true := by simp; omega
  clear h2
  clear hm hlo
  rcases hL with hD | ⟨hD, hA⟩
  · go_enter Tryz.func94, Tryz.ntmps94
    go_wp2_with fail
    refine (Tryz.strings_Count_one F 37 _).mono ?_
    rintro e w' ⟨rfl, rfl⟩
    go_wp2_with fail
    refine (Tryz.strings_Count_one F 47 _).mono ?_
    rintro e w' ⟨rfl, rfl⟩
    go_wp2_with fail
    refine (HN.out _).mono ?_
    rintro e wc ⟨rfl, n, rfl⟩
    replace hB := below_drewN hB n
    try simp only [World.drewN_drewN] at hB
    go_wp2_with fail
    refine (HC.out _).mono ?_
    rintro e wc ⟨rfl, n, rfl⟩
    replace hB := below_drewN hB n
    try simp only [World.drewN_drewN] at hB
    go_wp2_with fail
    refine (r_IsAbbr _ HM.out _).mono ?_
    rintro e wa ⟨rfl, hb⟩
    replace hB := hB.trans (hb.mono hB.size)
    clear hb
    go_wp2_with fail
    refine (r_outside _ _ _ _).mono ?_
    rintro e w' ⟨rfl, rfl⟩
    go_wp2_with fail
    go_ret2
    exact ⟨rfl, hB⟩
  · go_enter Tryz.func94, Tryz.ntmps94
    go_wp2_with fail
    refine (Tryz.strings_Count_one F 37 _).mono ?_
    rintro e w' ⟨rfl, rfl⟩
    go_wp2_with fail
    refine (Tryz.strings_Count_one F 47 _).mono ?_
    rintro e w' ⟨rfl, rfl⟩
    go_wp2_with fail
    refine (r_IsAbbr _ hl _).mono ?_
    rintro e w1 ⟨rfl, hb⟩
    replace hB := hB.trans (hb.mono hB.size)
    clear hb
    go_wp2_with fail
    refine (HN.out _).mono ?_
    rintro e wc ⟨rfl, n, rfl⟩
    replace hB := below_drewN hB n
    try simp only [World.drewN_drewN] at hB
    go_wp2_with fail
    refine (HC.out _).mono ?_
    rintro e wc ⟨rfl, n, rfl⟩
    replace hB := below_drewN hB n
    try simp only [World.drewN_drewN] at hB
    go_wp2_with fail
    refine (r_IsAbbr _ HM.out _).mono ?_
    rintro e wa ⟨rfl, hb⟩
    replace hB := hB.trans (hb.mono hB.size)
    clear hb
    go_wp2_with fail
    refine (r_outside _ _ _ _).mono ?_
    rintro e w' ⟨rfl, rfl⟩
    go_wp2_with fail
    go_ret2
    exact ⟨rfl, hB⟩
set_option maxRecDepth 100000 in
set_option maxHeartbeats 2000000 in
theorem r_Abbr_n_ok (F letter : ByteArray) (save : Int)  (hF : F.size ≤ 12) (hl : letter.size ≤ maxLen) (hlo : letOk letter = true) (hcc : Lib.countByte F.data.toList 37 + Lib.countByte F.data.toList 47 ≤ 1) (hs : ixB F 47 = -1) (hp : ixB F 37 = -1) (ha : isAbbrB F.data.toList = true) (h2 : 0 ≤ save ∧ save ≤ 10800) (w : World) :
    Calls Tryz.prog 94 #[.string F, .int .i64 save, .string letter] w fun e w' => e = .returned (.tuple #[.string F, .int .i64 0]) ∧ Below w.heap.size w w' := by
  have hB : Below w.heap.size w w := Below.refl _ _
  have hm : F.size ≤ maxLen := by unfold maxLen; omega
  have HM := Lib.hid hm
  have hL := let_cases hlo
  obtain ⟨n37, h37⟩ : ∃ n, Lib.countByte F.data.toList 37 = n := ⟨_, rfl⟩
  obtain ⟨n47, h47⟩ : ∃ n, Lib.countByte F.data.toList 47 = n := ⟨_, rfl⟩
  rw [h37, h47] at hcc
  have HN := Lib.hid (fun w => str_cut_no F 47 hs w)
  have HC := Lib.hid (fun w => str_cut_no F 37 hp w)
  clear hs hp
  have hd : decide (save < 0 ∨ 10800 < save) = false := by simp; omega
  obtain ⟨sa, sb⟩ := abbr_size' ha
  have he := not_empty' sa
  have he' := not_emptyB sa
  clear h2
  clear hm hlo
  rcases hL with hD | ⟨hD, hA⟩
  · go_enter Tryz.func94, Tryz.ntmps94
    go_wp2_with fail
    refine (Tryz.strings_Count_one F 37 _).mono ?_
    rintro e w' ⟨rfl, rfl⟩
    go_wp2_with fail
    refine (Tryz.strings_Count_one F 47 _).mono ?_
    rintro e w' ⟨rfl, rfl⟩
    go_wp2_with fail
    refine (HN.out _).mono ?_
    rintro e wc ⟨rfl, n, rfl⟩
    replace hB := below_drewN hB n
    try simp only [World.drewN_drewN] at hB
    go_wp2_with fail
    refine (HC.out _).mono ?_
    rintro e wc ⟨rfl, n, rfl⟩
    replace hB := below_drewN hB n
    try simp only [World.drewN_drewN] at hB
    go_wp2_with fail
    refine (r_IsAbbr _ HM.out _).mono ?_
    rintro e wa ⟨rfl, hb⟩
    replace hB := hB.trans (hb.mono hB.size)
    clear hb
    go_wp2_with fail
    refine (r_outside _ _ _ _).mono ?_
    rintro e w' ⟨rfl, rfl⟩
    go_wp2_with fail
    go_ret2
    exact ⟨rfl, hB⟩
  · go_enter Tryz.func94, Tryz.ntmps94
    go_wp2_with fail
    refine (Tryz.strings_Count_one F 37 _).mono ?_
    rintro e w' ⟨rfl, rfl⟩
    go_wp2_with fail
    refine (Tryz.strings_Count_one F 47 _).mono ?_
    rintro e w' ⟨rfl, rfl⟩
    go_wp2_with fail
    refine (r_IsAbbr _ hl _).mono ?_
    rintro e w1 ⟨rfl, hb⟩
    replace hB := hB.trans (hb.mono hB.size)
    clear hb
    go_wp2_with fail
    refine (HN.out _).mono ?_
    rintro e wc ⟨rfl, n, rfl⟩
    replace hB := below_drewN hB n
    try simp only [World.drewN_drewN] at hB
    go_wp2_with fail
    refine (HC.out _).mono ?_
    rintro e wc ⟨rfl, n, rfl⟩
    replace hB := below_drewN hB n
    try simp only [World.drewN_drewN] at hB
    go_wp2_with fail
    refine (r_IsAbbr _ HM.out _).mono ?_
    rintro e wa ⟨rfl, hb⟩
    replace hB := hB.trans (hb.mono hB.size)
    clear hb
    go_wp2_with fail
    refine (r_outside _ _ _ _).mono ?_
    rintro e w' ⟨rfl, rfl⟩
    go_wp2_with fail
    go_ret2
    exact ⟨rfl, hB⟩
end Go.Proofs.YtanaoohgpdcfjaaGreatDoor
