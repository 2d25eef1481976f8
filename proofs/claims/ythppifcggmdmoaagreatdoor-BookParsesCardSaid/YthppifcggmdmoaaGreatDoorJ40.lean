/- Part 40 of the proof of BookParses: no condition; what its declarations say stands at each. -/
import Derived.Test.YthppifcggmdmoaaGreatDoorJ37
import Derived.Test.YthppifcggmdmoaaGreatDoorJ38
import Derived.Test.YthppifcggmdmoaaGreatDoorJ39
namespace Go.Proofs.YthppifcggmdmoaaGreatDoor
open Go.RowKit
set_option linter.unusedVariables false
set_option maxRecDepth 100000 in
set_option maxHeartbeats 2000000 in
theorem r_Abbr_p_save_le (F letter : ByteArray) (save : Int) (k : Nat) (hF : F.size ≤ 12) (hl : letter.size ≤ maxLen) (hD : (letter.toList == [45]) = false) (hA : isAbbrB letter.data.toList = true) (hcc : Lib.countByte F.data.toList 37 + Lib.countByte F.data.toList 47 ≤ 1) (hs : ixB F 47 = -1) (hk : ixB F 37 = k) (hE : (cutA F 37 ++ cutB F 37).size = 0) (h2 : ¬ (0 ≤ save ∧ save ≤ 10800)) (w : World) :
  Calls Tryz.prog 117 #[.string F, .int .i64 save, .string letter] w fun e w' => e = .returned (.tuple #[.string ⟨#[]⟩, .int .i64 1]) ∧ Below w.heap.size w w' := by
 have hB : Below w.heap.size w w := Below.refl _ _
 have hm : F.size ≤ maxLen := by unfold maxLen; omega
 have HM := Lib.hid hm
 obtain ⟨n37, h37⟩ : ∃ n, Lib.countByte F.data.toList 37 = n := ⟨_, rfl⟩
 obtain ⟨n47, h47⟩ : ∃ n, Lib.countByte F.data.toList 47 = n := ⟨_, rfl⟩
 rw [h37, h47] at hcc
 have HN := Lib.hid (fun w => str_cut_no F 47 hs w)
 have HC := Lib.hid (fun w => cut_calls HM.out hk w)
 obtain ⟨sa, sb⟩ := cut_sizes' F 37 hF
 have HA := Lib.hid (show (cutA F 37 ++ cutB F 37).size ≤ maxLen by rw [ByteArray.size_append]; unfold maxLen; omega)
 clear hs hk
 have he := is_empty' hE
 have he' := is_emptyB hE
 clear hE
 have hd : decide (save < 0 ∨ 10800 < save) = true := by simp; omega
 clear h2
 obtain ⟨sl1, sl2⟩ := abbr_size' hA
 clear hm
 go_enter Tryz.func117, Tryz.ntmps117
 go_wp2_with fail
 refine (Tryz.strings_Count_one F 37 _).mono ?_
 rintro e w' ⟨rfl, rfl⟩
 go_wp2_with fail
 refine (Tryz.strings_Count_one F 47 _).mono ?_
 rintro e w' ⟨rfl, rfl⟩
 go_wp2_with fail
 refine (r_IsAbbr _ hl _).mono ?_
 rintro e w1 ⟨rfl, hb⟩
 replace hB := hB.trans (hb.mono hB.size)
 clear hb
 go_wp2_with fail
 refine (HN.out _).mono ?_
 rintro e wc ⟨rfl, n, rfl⟩
 replace hB := below_drewN hB n
 try simp only [World.drewN_drewN] at hB
 go_wp2_with fail
 refine (HC.out _).mono ?_
 rintro e wc ⟨rfl, n, rfl⟩
 replace hB := below_drewN hB n
 try simp only [World.drewN_drewN] at hB
 go_wp2_with fail
 refine (r_outside _ _ _ _).mono ?_
 rintro e w' ⟨rfl, rfl⟩
 go_wp2_with fail
 go_ret2
 exact ⟨rfl, hB⟩
set_option maxRecDepth 100000 in
set_option maxHeartbeats 2000000 in
theorem r_Abbr_p_ok_le (F letter : ByteArray) (save : Int) (k : Nat) (hF : F.size ≤ 12) (hl : letter.size ≤ maxLen) (hD : (letter.toList == [45]) = false) (hA : isAbbrB letter.data.toList = true) (hcc : Lib.countByte F.data.toList 37 + Lib.countByte F.data.toList 47 ≤ 1) (hs : ixB F 47 = -1) (hk : ixB F 37 = k) (hE : (cutA F 37 ++ cutB F 37).size = 0) (h2 : 0 ≤ save ∧ save ≤ 10800) (h3 : (cutA F 37).size + letter.size + (cutB F 37).size ≤ 8) (h4 : 1 ≤ (cutA F 37 ++ letter ++ cutB F 37).size) (w : World) :
  Calls Tryz.prog 117 #[.string F, .int .i64 save, .string letter] w fun e w' => e = .returned (.tuple #[.string (cutA F 37 ++ letter ++ cutB F 37), .int .i64 0]) ∧ Below w.heap.size w w' := by
 have hB : Below w.heap.size w w := Below.refl _ _
 have hm : F.size ≤ maxLen := by unfold maxLen; omega
 have HM := Lib.hid hm
 obtain ⟨n37, h37⟩ : ∃ n, Lib.countByte F.data.toList 37 = n := ⟨_, rfl⟩
 obtain ⟨n47, h47⟩ : ∃ n, Lib.countByte F.data.toList 47 = n := ⟨_, rfl⟩
 rw [h37, h47] at hcc
 have HN := Lib.hid (fun w => str_cut_no F 47 hs w)
 have HC := Lib.hid (fun w => cut_calls HM.out hk w)
 obtain ⟨sa, sb⟩ := cut_sizes' F 37 hF
 have HA := Lib.hid (show (cutA F 37 ++ cutB F 37).size ≤ maxLen by rw [ByteArray.size_append]; unfold maxLen; omega)
 clear hs hk
 have he := is_empty' hE
 have he' := is_emptyB hE
 clear hE
 have hd : decide (save < 0 ∨ 10800 < save) = false := by simp; omega
 clear h2
 have ho := not_empty' h4
 have ho' := not_emptyB h4
 clear h4
 obtain ⟨sl1, sl2⟩ := abbr_size' hA
 clear hm
 go_enter Tryz.func117, Tryz.ntmps117
 go_wp2_with fail
 refine (Tryz.strings_Count_one F 37 _).mono ?_
 rintro e w' ⟨rfl, rfl⟩
 go_wp2_with fail
 refine (Tryz.strings_Count_one F 47 _).mono ?_
 rintro e w' ⟨rfl, rfl⟩
 go_wp2_with fail
 refine (r_IsAbbr _ hl _).mono ?_
 rintro e w1 ⟨rfl, hb⟩
 replace hB := hB.trans (hb.mono hB.size)
 clear hb
 go_wp2_with fail
 refine (HN.out _).mono ?_
 rintro e wc ⟨rfl, n, rfl⟩
 replace hB := below_drewN hB n
 try simp only [World.drewN_drewN] at hB
 go_wp2_with fail
 refine (HC.out _).mono ?_
 rintro e wc ⟨rfl, n, rfl⟩
 replace hB := below_drewN hB n
 try simp only [World.drewN_drewN] at hB
 go_wp2_with fail
 refine (r_outside _ _ _ _).mono ?_
 rintro e w' ⟨rfl, rfl⟩
 go_wp2_with fail
 go_ret2
 exact ⟨rfl, hB⟩
end Go.Proofs.YthppifcggmdmoaaGreatDoor

namespace Go.Proofs.YthppifcggmdmoaaGreatDoor
open Go.RowKit
set_option linter.unusedVariables false
set_option maxRecDepth 100000 in
set_option maxHeartbeats 2000000 in
theorem r_Abbr_p_save_la (F letter : ByteArray) (save : Int) (k : Nat) (hF : F.size ≤ 12) (hl : letter.size ≤ maxLen) (hD : (letter.toList == [45]) = false) (hA : isAbbrB letter.data.toList = true) (hcc : Lib.countByte F.data.toList 37 + Lib.countByte F.data.toList 47 ≤ 1) (hs : ixB F 47 = -1) (hk : ixB F 37 = k) (ha : isAbbrB (cutA F 37 ++ cutB F 37).data.toList = true) (h2 : ¬ (0 ≤ save ∧ save ≤ 10800)) (w : World) :
  Calls Tryz.prog 117 #[.string F, .int .i64 save, .string letter] w fun e w' => e = .returned (.tuple #[.string ⟨#[]⟩, .int .i64 1]) ∧ Below w.heap.size w w' := by
 have hB : Below w.heap.size w w := Below.refl _ _
 have hm : F.size ≤ maxLen := by unfold maxLen; omega
 have HM := Lib.hid hm
 obtain ⟨n37, h37⟩ : ∃ n, Lib.countByte F.data.toList 37 = n := ⟨_, rfl⟩
 obtain ⟨n47, h47⟩ : ∃ n, Lib.countByte F.data.toList 47 = n := ⟨_, rfl⟩
 rw [h37, h47] at hcc
 have HN := Lib.hid (fun w => str_cut_no F 47 hs w)
 have HC := Lib.hid (fun w => cut_calls HM.out hk w)
 obtain ⟨sa, sb⟩ := cut_sizes' F 37 hF
 have HA := Lib.hid (show (cutA F 37 ++ cutB F 37).size ≤ maxLen by rw [ByteArray.size_append]; unfold maxLen; omega)
 clear hs hk
 obtain ⟨s1, s2⟩ := abbr_size' ha
 have he := not_empty' s1
 have he' := not_emptyB s1
 clear s1 s2
 obtain ⟨q, hq⟩ : ∃ q, cutA F 37 ++ cutB F 37 = q := ⟨_, rfl⟩
 rw [hq] at ha HA he he'
 have hd : decide (save < 0 ∨ 10800 < save) = true := by simp; omega
 clear h2
 obtain ⟨sl1, sl2⟩ := abbr_size' hA
 clear hm
 go_enter Tryz.func117, Tryz.ntmps117
 go_wp2_with fail
 refine (Tryz.strings_Count_one F 37 _).mono ?_
 rintro e w' ⟨rfl, rfl⟩
 go_wp2_with fail
 refine (Tryz.strings_Count_one F 47 _).mono ?_
 rintro e w' ⟨rfl, rfl⟩
 go_wp2_with fail
 refine (r_IsAbbr _ hl _).mono ?_
 rintro e w1 ⟨rfl, hb⟩
 replace hB := hB.trans (hb.mono hB.size)
 clear hb
 go_wp2_with fail
 refine (HN.out _).mono ?_
 rintro e wc ⟨rfl, n, rfl⟩
 replace hB := below_drewN hB n
 try simp only [World.drewN_drewN] at hB
 go_wp2_with fail
 refine (HC.out _).mono ?_
 rintro e wc ⟨rfl, n, rfl⟩
 replace hB := below_drewN hB n
 try simp only [World.drewN_drewN] at hB
 go_wp2_with fail
 refine (r_IsAbbr _ HA.out _).mono ?_
 rintro e wa ⟨rfl, hb⟩
 replace hB := hB.trans (hb.mono hB.size)
 clear hb
 go_wp2_with fail
 refine (r_outside _ _ _ _).mono ?_
 rintro e w' ⟨rfl, rfl⟩
 go_wp2_with fail
 go_ret2
 exact ⟨rfl, hB⟩
set_option maxRecDepth 100000 in
set_option maxHeartbeats 2000000 in
theorem r_Abbr_p_2_la (F letter : ByteArray) (save : Int) (k : Nat) (hF : F.size ≤ 12) (hl : letter.size ≤ maxLen) (hD : (letter.toList == [45]) = false) (hA : isAbbrB letter.data.toList = true) (hcc : Lib.countByte F.data.toList 37 + Lib.countByte F.data.toList 47 ≤ 1) (hs : ixB F 47 = -1) (hk : ixB F 37 = k) (ha : isAbbrB (cutA F 37 ++ cutB F 37).data.toList = true) (h2 : 0 ≤ save ∧ save ≤ 10800) (h3 : 8 < (cutA F 37).size + letter.size + (cutB F 37).size) (w : World) :
  Calls Tryz.prog 117 #[.string F, .int .i64 save, .string letter] w fun e w' => e = .returned (.tuple #[.string ⟨#[]⟩, .int .i64 2]) ∧ Below w.heap.size w w' := by
 have hB : Below w.heap.size w w := Below.refl _ _
 have hm : F.size ≤ maxLen := by unfold maxLen; omega
 have HM := Lib.hid hm
 obtain ⟨n37, h37⟩ : ∃ n, Lib.countByte F.data.toList 37 = n := ⟨_, rfl⟩
 obtain ⟨n47, h47⟩ : ∃ n, Lib.countByte F.data.toList 47 = n := ⟨_, rfl⟩
 rw [h37, h47] at hcc
 have HN := Lib.hid (fun w => str_cut_no F 47 hs w)
 have HC := Lib.hid (fun w => cut_calls HM.out hk w)
 obtain ⟨sa, sb⟩ := cut_sizes' F 37 hF
 have HA := Lib.hid (show (cutA F 37 ++ cutB F 37).size ≤ maxLen by rw [ByteArray.size_append]; unfold maxLen; omega)
 clear hs hk
 obtain ⟨s1, s2⟩ := abbr_size' ha
 have he := not_empty' s1
 have he' := not_emptyB s1
 clear s1 s2
 obtain ⟨q, hq⟩ : ∃ q, cutA F 37 ++ cutB F 37 = q := ⟨_, rfl⟩
 rw [hq] at ha HA he he'
 have hd : decide (save < 0 ∨ 10800 < save) = false := by simp; omega
 clear h2
 obtain ⟨sl1, sl2⟩ := abbr_size' hA
 clear hm
 go_enter Tryz.func117, Tryz.ntmps117
 go_wp2_with fail
 refine (Tryz.strings_Count_one F 37 _).mono ?_
 rintro e w' ⟨rfl, rfl⟩
 go_wp2_with fail
 refine (Tryz.strings_Count_one F 47 _).mono ?_
 rintro e w' ⟨rfl, rfl⟩
 go_wp2_with fail
 refine (r_IsAbbr _ hl _).mono ?_
 rintro e w1 ⟨rfl, hb⟩
 replace hB := hB.trans (hb.mono hB.size)
 clear hb
 go_wp2_with fail
 refine (HN.out _).mono ?_
 rintro e wc ⟨rfl, n, rfl⟩
 replace hB := below_drewN hB n
 try simp only [World.drewN_drewN] at hB
 go_wp2_with fail
 refine (HC.out _).mono ?_
 rintro e wc ⟨rfl, n, rfl⟩
 replace hB := below_drewN hB n
 try simp only [World.drewN_drewN] at hB
 go_wp2_with fail
 refine (r_IsAbbr _ HA.out _).mono ?_
 rintro e wa ⟨rfl, hb⟩
 replace hB := hB.trans (hb.mono hB.size)
 clear hb
 go_wp2_with fail
 refine (r_outside _ _ _ _).mono ?_
 rintro e w' ⟨rfl, rfl⟩
 go_wp2_with fail
 go_ret2
 exact ⟨rfl, hB⟩
set_option maxRecDepth 100000 in
set_option maxHeartbeats 2000000 in
theorem r_Abbr_p_ok_la (F letter : ByteArray) (save : Int) (k : Nat) (hF : F.size ≤ 12) (hl : letter.size ≤ maxLen) (hD : (letter.toList == [45]) = false) (hA : isAbbrB letter.data.toList = true) (hcc : Lib.countByte F.data.toList 37 + Lib.countByte F.data.toList 47 ≤ 1) (hs : ixB F 47 = -1) (hk : ixB F 37 = k) (ha : isAbbrB (cutA F 37 ++ cutB F 37).data.toList = true) (h2 : 0 ≤ save ∧ save ≤ 10800) (h3 : (cutA F 37).size + letter.size + (cutB F 37).size ≤ 8) (h4 : 1 ≤ (cutA F 37 ++ letter ++ cutB F 37).size) (w : World) :
  Calls Tryz.prog 117 #[.string F, .int .i64 save, .string letter] w fun e w' => e = .returned (.tuple #[.string (cutA F 37 ++ letter ++ cutB F 37), .int .i64 0]) ∧ Below w.heap.size w w' := by
 have hB : Below w.heap.size w w := Below.refl _ _
 have hm : F.size ≤ maxLen := by unfold maxLen; omega
 have HM := Lib.hid hm
 obtain ⟨n37, h37⟩ : ∃ n, Lib.countByte F.data.toList 37 = n := ⟨_, rfl⟩
 obtain ⟨n47, h47⟩ : ∃ n, Lib.countByte F.data.toList 47 = n := ⟨_, rfl⟩
 rw [h37, h47] at hcc
 have HN := Lib.hid (fun w => str_cut_no F 47 hs w)
 have HC := Lib.hid (fun w => cut_calls HM.out hk w)
 obtain ⟨sa, sb⟩ := cut_sizes' F 37 hF
 have HA := Lib.hid (show (cutA F 37 ++ cutB F 37).size ≤ maxLen by rw [ByteArray.size_append]; unfold maxLen; omega)
 clear hs hk
 obtain ⟨s1, s2⟩ := abbr_size' ha
 have he := not_empty' s1
 have he' := not_emptyB s1
 clear s1 s2
 obtain ⟨q, hq⟩ : ∃ q, cutA F 37 ++ cutB F 37 = q := ⟨_, rfl⟩
 rw [hq] at ha HA he he'
 have hd : decide (save < 0 ∨ 10800 < save) = false := by simp; omega
 clear h2
 have ho := not_empty' h4
 have ho' := not_emptyB h4
 clear h4
 obtain ⟨sl1, sl2⟩ := abbr_size' hA
 clear hm
 go_enter Tryz.func117, Tryz.ntmps117
 go_wp2_with fail
 refine (Tryz.strings_Count_one F 37 _).mono ?_
 rintro e w' ⟨rfl, rfl⟩
 go_wp2_with fail
 refine (Tryz.strings_Count_one F 47 _).mono ?_
 rintro e w' ⟨rfl, rfl⟩
 go_wp2_with fail
 refine (r_IsAbbr _ hl _).mono ?_
 rintro e w1 ⟨rfl, hb⟩
 replace hB := hB.trans (hb.mono hB.size)
 clear hb
 go_wp2_with fail
 refine (HN.out _).mono ?_
 rintro e wc ⟨rfl, n, rfl⟩
 replace hB := below_drewN hB n
 try simp only [World.drewN_drewN] at hB
 go_wp2_with fail
 refine (HC.out _).mono ?_
 rintro e wc ⟨rfl, n, rfl⟩
 replace hB := below_drewN hB n
 try simp only [World.drewN_drewN] at hB
 go_wp2_with fail
 refine (r_IsAbbr _ HA.out _).mono ?_
 rintro e wa ⟨rfl, hb⟩
 replace hB := hB.trans (hb.mono hB.size)
 clear hb
 go_wp2_with fail
 refine (r_outside _ _ _ _).mono ?_
 rintro e w' ⟨rfl, rfl⟩
 go_wp2_with fail
 go_ret2
 exact ⟨rfl, hB⟩
end Go.Proofs.YthppifcggmdmoaaGreatDoor

namespace Go.Proofs.YthppifcggmdmoaaGreatDoor
open Go.RowKit
set_option linter.unusedVariables false
section
variable {F letter : ByteArray} {save : Int} {w : World}
abbrev AbR (F letter : ByteArray) (save : Int) (w : World) (v : ByteArray) (x : Int) : Prop :=
 Calls Tryz.prog 117 #[.string F, .int .i64 save, .string letter] w fun e w' => e = .returned (.tuple #[.string v, .int .i64 x]) ∧ Below w.heap.size w w'
theorem fin3 (h : (fmtOk F && letOk letter) = false) (H : AbR F letter save w ⟨#[]⟩ 3) : AbR F letter save w (abV F save letter) (abE F save letter) := by
 obtain ⟨e, v⟩ := ab_3 (save := save) h; rw [e, v]; exact H
theorem fin1 (h : (fmtOk F && letOk letter) = true) (h2 : ¬ (0 ≤ save ∧ save ≤ 10800)) (H : AbR F letter save w ⟨#[]⟩ 1) : AbR F letter save w (abV F save letter) (abE F save letter) := by
 obtain ⟨e, v⟩ := ab_1 h h2; rw [e, v]; exact H
theorem fin2 (h : (fmtOk F && letOk letter) = true) (h2 : 0 ≤ save ∧ save ≤ 10800) (h3 : 8 < (fmtOut F save letter).size) (H : AbR F letter save w ⟨#[]⟩ 2) : AbR F letter save w (abV F save letter) (abE F save letter) := by
 obtain ⟨e, v⟩ := ab_2 h h2 h3; rw [e, v]; exact H
theorem fin5 (h : (fmtOk F && letOk letter) = true) (h2 : 0 ≤ save ∧ save ≤ 10800) (h3 : (fmtOut F save letter).size = 0) (H : AbR F letter save w ⟨#[]⟩ 5) : AbR F letter save w (abV F save letter) (abE F save letter) := by
 obtain ⟨e, v⟩ := ab_5 h h2 h3; rw [e, v]; exact H
theorem fin0 {o : ByteArray} (h : (fmtOk F && letOk letter) = true) (h2 : 0 ≤ save ∧ save ≤ 10800) (ho : fmtOut F save letter = o) (h3 : o.size ≤ 8) (h4 : 1 ≤ o.size) (H : AbR F letter save w o 0) : AbR F letter save w (abV F save letter) (abE F save letter) := by
 obtain ⟨e, v⟩ := ab_0 h h2 (by rw [ho]; omega) (by rw [ho]; omega); rw [e, v, ho]; exact H
end
theorem r_Abbr (F letter : ByteArray) (save : Int) (hF : F.size ≤ maxLen) (hl : letter.size ≤ maxLen) (w : World) : AbR F letter save w (abV F save letter) (abE F save letter) := by
 by_cases hh : 12 < F.size ∨ F.size ≤ 12 ∧ 1 < Lib.countByte F.data.toList 37 + Lib.countByte F.data.toList 47 ∨ letOk letter = false
 ·refine fin3 ?_ (r_Abbr_head F letter save hF hl hh w)
  rcases hh with h | ⟨h, hc⟩ | h
  ·rw [fmtOk, if_pos h]; rfl
  ·cases hf : fmtOk F with
   | false => rfl
   | true =>
    have h1 := fmt_count hf
    have h2 : ¬ 1 < Lib.countByte F.data.toList 37 + Lib.countByte F.data.toList 47 := Nat.not_lt.2 h1
    exact absurd hc h2
  ·rw [h, Bool.and_false]
 ·have h12 : F.size ≤ 12 := by omega
  have hn12 : ¬ 12 < F.size := by omega
  have hlo : letOk letter = true := by
   cases e : letOk letter with
   | true => rfl
   | false => exact absurd (Or.inr (Or.inr e)) hh
  have hcc : Lib.countByte F.data.toList 37 + Lib.countByte F.data.toList 47 ≤ 1 := by
   rw [← Nat.not_lt]; intro hc; exact hh (Or.inr (Or.inl ⟨h12, hc⟩))
  clear hh
  rcases ix_cases F 47 with hs | ⟨k, hs, _⟩
  ·have ns : ¬ 0 ≤ ixB F 47 := by omega
   rcases ix_cases F 37 with hp | ⟨j, hp, _⟩
   ·have np : ¬ 0 ≤ ixB F 37 := by omega
    cases ha : isAbbrB F.data.toList with
    | false => exact fin3 (by rw [fmtOk, if_neg hn12, if_neg ns, if_neg np, ha]; rfl) (r_Abbr_n_bad F letter save h12 hl hlo hcc hs hp ha w)
    | true =>
     have hok : (fmtOk F && letOk letter) = true := by rw [fmtOk, if_neg hn12, if_neg ns, if_neg np, ha, hlo]; rfl
     have hz := abbr_size' ha
     by_cases h2 : 0 ≤ save ∧ save ≤ 10800
     ·exact fin0 hok h2 (by rw [fmtOut, if_neg ns, if_neg np]) hz.2 hz.1 (r_Abbr_n_ok F letter save h12 hl hlo hcc hs hp ha h2 w)
     ·exact fin1 hok h2 (r_Abbr_n_save F letter save h12 hl hlo hcc hs hp ha h2 w)
   ·have yp : 0 ≤ ixB F 37 := by omega
    have hfm : fmtOk F = pctOk (cutA F 37 ++ cutB F 37) := by rw [fmtOk, if_neg hn12, if_neg ns, if_pos yp]
    have hout : fmtOut F save letter = cutA F 37 ++ letV letter ++ cutB F 37 := by rw [fmtOut, if_neg ns, if_pos yp, ByteArray.append_assoc]
    have hsz : (cutA F 37 ++ letV letter ++ cutB F 37).size = (cutA F 37).size + (letV letter).size + (cutB F 37).size := by rw [ByteArray.size_append, ByteArray.size_append]
    have hab : (cutA F 37 ++ cutB F 37).size = (cutA F 37).size + (cutB F 37).size := ByteArray.size_append
    rcases let_cases hlo with hD | ⟨hD, hA⟩
    ·have hv : letV letter = ⟨#[]⟩ := by rw [letV, hD]; rfl
     rw [hv] at hout hsz
     have hz0 : (⟨#[]⟩ : ByteArray).size = 0 := rfl
     rw [hz0] at hsz
     by_cases he : (cutA F 37 ++ cutB F 37).size = 0
     ·have hok : (fmtOk F && letOk letter) = true := by rw [hfm, pctOk, decide_eq_true he, hlo]; rfl
      by_cases h2 : 0 ≤ save ∧ save ≤ 10800
      ·exact fin5 hok h2 (by rw [hout, hsz]; omega) (r_Abbr_p_5_de F letter save j h12 hl hD hcc hs hp he h2 (by omega) (by omega) w)
      ·exact fin1 hok h2 (r_Abbr_p_save_de F letter save j h12 hl hD hcc hs hp he h2 w)
     ·cases ha : isAbbrB (cutA F 37 ++ cutB F 37).data.toList with
      | false => exact fin3 (by rw [hfm, pctOk, decide_eq_false he, ha]; rfl) (r_Abbr_p_bad_d F letter save j h12 hl hD hcc hs hp (by omega) ha w)
      | true =>
       have hok : (fmtOk F && letOk letter) = true := by rw [hfm, pctOk, ha, hlo, Bool.or_true]; rfl
       have hz := abbr_size' ha
       by_cases h2 : 0 ≤ save ∧ save ≤ 10800
       ·exact fin0 hok h2 hout (by omega) (by omega) (r_Abbr_p_ok_da F letter save j h12 hl hD hcc hs hp ha h2 (by omega) (by omega) w)
       ·exact fin1 hok h2 (r_Abbr_p_save_da F letter save j h12 hl hD hcc hs hp ha h2 w)
    ·have hv : letV letter = letter := by rw [letV, hD]; rfl
     rw [hv] at hout hsz
     have hlz := abbr_size' hA
     by_cases he : (cutA F 37 ++ cutB F 37).size = 0
     ·have hok : (fmtOk F && letOk letter) = true := by rw [hfm, pctOk, decide_eq_true he, hlo]; rfl
      by_cases h2 : 0 ≤ save ∧ save ≤ 10800
      ·exact fin0 hok h2 hout (by omega) (by omega) (r_Abbr_p_ok_le F letter save j h12 hl hD hA hcc hs hp he h2 (by omega) (by omega) w)
      ·exact fin1 hok h2 (r_Abbr_p_save_le F letter save j h12 hl hD hA hcc hs hp he h2 w)
     ·cases ha : isAbbrB (cutA F 37 ++ cutB F 37).data.toList with
      | false => exact fin3 (by rw [hfm, pctOk, decide_eq_false he, ha]; rfl) (r_Abbr_p_bad_l F letter save j h12 hl hD hA hcc hs hp (by omega) ha w)
      | true =>
       have hok : (fmtOk F && letOk letter) = true := by rw [hfm, pctOk, ha, hlo, Bool.or_true]; rfl
       have hz := abbr_size' ha
       by_cases h2 : 0 ≤ save ∧ save ≤ 10800
       ·by_cases h8 : 8 < (cutA F 37).size + letter.size + (cutB F 37).size
        ·exact fin2 hok h2 (by rw [hout, hsz]; exact h8) (r_Abbr_p_2_la F letter save j h12 hl hD hA hcc hs hp ha h2 h8 w)
        ·exact fin0 hok h2 hout (by omega) (by omega) (r_Abbr_p_ok_la F letter save j h12 hl hD hA hcc hs hp ha h2 (by omega) (by omega) w)
       ·exact fin1 hok h2 (r_Abbr_p_save_la F letter save j h12 hl hD hA hcc hs hp ha h2 w)
  ·have ys : 0 ≤ ixB F 47 := by omega
   have hfm : fmtOk F = (isAbbrB (cutA F 47).data.toList && isAbbrB (cutB F 47).data.toList) := by rw [fmtOk, if_neg hn12, if_pos ys]
   cases ha : isAbbrB (cutA F 47).data.toList with
   | false => exact fin3 (by rw [hfm, ha]; rfl) (r_Abbr_s_bad1 F letter save k h12 hl hlo hcc hs ha w)
   | true =>
    cases hb : isAbbrB (cutB F 47).data.toList with
    | false => exact fin3 (by rw [hfm, ha, hb]; rfl) (r_Abbr_s_bad2 F letter save k h12 hl hlo hcc hs ha hb w)
    | true =>
     have hok : (fmtOk F && letOk letter) = true := by rw [hfm, ha, hb, hlo]; rfl
     have za := abbr_size' ha
     have zb := abbr_size' hb
     by_cases h2 : 0 ≤ save ∧ save ≤ 10800
     ·by_cases h0 : save = 0
      ·exact fin0 hok h2 (by rw [fmtOut, if_pos ys, if_pos h0]) za.2 za.1 (r_Abbr_s_ok0 F letter save k h12 hl hlo hcc hs ha hb h0 w)
      ·exact fin0 hok h2 (by rw [fmtOut, if_pos ys, if_neg h0]) zb.2 zb.1 (r_Abbr_s_ok1 F letter save k h12 hl hlo hcc hs ha hb h2 h0 w)
     ·exact fin1 hok h2 (r_Abbr_s_save F letter save k h12 hl hlo hcc hs ha hb h2 w)
end Go.Proofs.YthppifcggmdmoaaGreatDoor

