/- Part 14 of the proof of TopWall: no condition; what its declarations say stands at each. -/
import Derived.Test.YthppifcggmdmoaaGreatDoorW03
import Derived.Test.YthppifcggmdmoaaGreatDoorW01
import Derived.Test.YthppifcggmdmoaaGreatDoorW02
namespace Go.Proofs.YthppifcggmdmoaaGreatDoor
open Go.RowKit
set_option linter.unusedVariables false
set_option maxHeartbeats 1000000 in
theorem lib_cut_yes (s : ByteArray) (c : UInt8) (k : Nat) (hs : s.size ≤ maxLen) (h : Lib.indexByte s.data.toList c = (k : Int)) (w : World) :
  Calls Tryz.prog 120 #[.string s, .string ⟨#[c]⟩] w fun e w' => e = .returned (.tuple #[.string (s.extract 0 k), .string (s.extract (k + 1) s.size), .bool true]) ∧ ∃ n, w' = w.drewN n := by
 unfold maxLen at hs
 have hk : k < s.size := by
  have := (Lib.indexByte_some h).1
  have := (List.getElem?_eq_some_iff.1 this).1
  simpa using this
 go_enter Tryz.func120, Tryz.ntmps120
 go_wp2_with (first | (go_at_call 135; refine (Tryz.stringslite_Index_one s c _).mono ?_; rintro e w' ⟨rfl, rfl⟩))
 have e1 : IntKind.i64.wrap ((k : Int) + 1) = (k : Int) + 1 := IntWalk.i64_in _ (by omega)
 have e2 : (0 : Int) ≤ (k : Int) + 1 := by omega
 have e3 : (k : Int) + 1 ≤ (s.size : Int) := by omega
 have e4 : ((k : Int) + 1).toNat = k + 1 := by omega
 have e5 : (k : Int) ≤ (s.size : Int) := by omega
 have e6 : (0 : Int) ≤ (k : Int) := by omega
 go_quiet (fail)
 go_wp2_with fail
 go_ret3
 exact ⟨rfl, _, rfl⟩
set_option maxHeartbeats 1000000 in
theorem lib_cut_no (s : ByteArray) (c : UInt8) (h : Lib.indexByte s.data.toList c = -1) (w : World) :
  Calls Tryz.prog 120 #[.string s, .string ⟨#[c]⟩] w fun e w' => e = .returned (.tuple #[.string s, .string ⟨#[]⟩, .bool false]) ∧ ∃ n, w' = w.drewN n := by
 go_enter Tryz.func120, Tryz.ntmps120
 go_wp2_with (first | (go_at_call 135; refine (Tryz.stringslite_Index_one s c _).mono ?_; rintro e w' ⟨rfl, rfl⟩))
 go_ret3
 exact ⟨rfl, 0, rfl⟩
set_option maxHeartbeats 1000000 in
theorem str_cut_yes (s : ByteArray) (c : UInt8) (k : Nat) (hs : s.size ≤ maxLen) (h : Lib.indexByte s.data.toList c = (k : Int)) (w : World) :
  Calls Tryz.prog 69 #[.string s, .string ⟨#[c]⟩] w fun e w' => e = .returned (.tuple #[.string (s.extract 0 k), .string (s.extract (k + 1) s.size), .bool true]) ∧ ∃ n, w' = w.drewN n := by
 have H := Lib.hid h
 clear h
 go_enter Tryz.func69, Tryz.ntmps69
 go_wp2_with (first | (go_at_call 120; refine (lib_cut_yes s c k hs H.out _).mono ?_; rintro e w' ⟨rfl, n, rfl⟩))
 go_ret3
 exact ⟨rfl, _, rfl⟩
set_option maxHeartbeats 1000000 in
theorem str_cut_no (s : ByteArray) (c : UInt8) (h : Lib.indexByte s.data.toList c = -1) (w : World) :
  Calls Tryz.prog 69 #[.string s, .string ⟨#[c]⟩] w fun e w' => e = .returned (.tuple #[.string s, .string ⟨#[]⟩, .bool false]) ∧ ∃ n, w' = w.drewN n := by
 have H := Lib.hid h
 clear h
 go_enter Tryz.func69, Tryz.ntmps69
 go_wp2_with (first | (go_at_call 120; refine (lib_cut_no s c H.out _).mono ?_; rintro e w' ⟨rfl, n, rfl⟩))
 go_ret3
 exact ⟨rfl, _, rfl⟩
end Go.Proofs.YthppifcggmdmoaaGreatDoor

namespace Go.Proofs.YthppifcggmdmoaaGreatDoor
open Go.RowKit
set_option linter.unusedVariables false

set_option maxHeartbeats 1000000 in
theorem u_isLetter (c : UInt8) (w : World) :
  Calls Tryz.prog 121 #[.int .u8 (c.toNat : Int)] w fun e w' => e = .returned (.bool (isLetB c)) ∧ w = w' := by
 by_cases h1 : 97 ≤ c.toNat <;> by_cases h2 : c.toNat ≤ 122 <;> by_cases h3 : 65 ≤ c.toNat <;> by_cases h4 : c.toNat ≤ 90 <;> first | (exfalso; omega) | skip
 all_goals
  go_enter Tryz.func121, Tryz.ntmps121
  go_wp2
  go_ret
  refine ⟨ret_bool ?_, rfl⟩
  first | (refine (isLetB_t ?_).symm; omega) | (refine (isLetB_f ?_).symm; omega) | (rw [isLetB, Bool.eq_iff_iff]; simp only [Bool.or_eq_true, decide_eq_true_eq]; omega)
set_option maxHeartbeats 400000 in
theorem u_isDigit (c : UInt8) (w : World) :
  Calls Tryz.prog 122 #[.int .u8 (c.toNat : Int)] w fun e w' => e = .returned (.bool (isDigB c)) ∧ w = w' := by
 by_cases h1 : 48 ≤ c.toNat <;> by_cases h2 : c.toNat ≤ 57 <;> first | (exfalso; omega) | skip
 all_goals
  go_enter Tryz.func122, Tryz.ntmps122
  go_wp2
  go_ret
  refine ⟨ret_bool ?_, rfl⟩
  first | (refine (isDigB_t ?_).symm; omega) | (refine (isDigB_f ?_).symm; omega) | (rw [isDigB, Bool.eq_iff_iff]; simp only [decide_eq_true_eq]; omega)

set_option maxHeartbeats 1000000 in
theorem u_all (s : ByteArray) (most : Nat) (o : ByteArray) (hs : s.size ≤ maxLen) (hm : most ≤ 1000) (w : World) :
  Calls Tryz.prog 71 #[.string s, .int .i64 (most : Int), .string o] w fun e w' => e = .returned (.bool (allB most o.data.toList s.data.toList)) ∧ w = w' := by
 unfold maxLen at hs
 go_enter Tryz.func71, Tryz.ntmps71
 go_wp2_with fail
 go_loop [10] (fun i => ∃ k : Nat, k ≤ s.size ∧ i = .int .i64 k ∧ Hid (lettersB o.data.toList (s.data.toList.take k) = true)) (fun i => s.size - (intOf i).toNat)
 case atStart => exact ⟨0, Nat.zero_le _, rfl, Lib.hid rfl⟩
 case round =>
  obtain ⟨k, hk, rfl, HL⟩ := hrel
  by_cases hlt : k < s.size
  ·have hx := extract_one s k hlt
   have HS := Lib.hid (lettersB_snoc o.data.toList s.data.toList k (by simpa using hlt))
   have HB := Lib.hid (lettersB_bad o.data.toList s.data.toList k (by simpa using hlt))
   have HO : Hid (okB o.data.toList (s.data.toList[k]'(by simpa using hlt)) = (isLetB s[k] || isDigB s[k] || o.data.toList.contains s[k])) := Lib.hid rfl
   have hi := indexByte_contains o.data.toList s[k]
   by_cases h1 : isLetB s[k] = true
   ·clear hi
    go_wp2_with (first | (go_at_call 121; refine (u_isLetter s[k] _).mono ?_; rintro e w' ⟨rfl, rfl⟩))
    exact ⟨⟨k + 1, by omega, by go_num, Lib.hid (by rw [HS.out, HL.out, HO.out, h1]; rfl)⟩, by simp [intOf]; omega⟩
   ·have h1' := eq_false_of_ne_true h1
    clear h1
    by_cases h2 : isDigB s[k] = true
    ·clear hi
     go_wp2_with (first | (go_at_call 121; refine (u_isLetter s[k] _).mono ?_; rintro e w' ⟨rfl, rfl⟩) | (go_at_call 122; refine (u_isDigit s[k] _).mono ?_; rintro e w' ⟨rfl, rfl⟩))
     exact ⟨⟨k + 1, by omega, by go_num, Lib.hid (by rw [HS.out, HL.out, HO.out, h2]; simp)⟩, by simp [intOf]; omega⟩
    ·have h2' := eq_false_of_ne_true h2
     clear h2
     by_cases h3 : o.data.toList.contains s[k] = true
     ·rw [h3] at hi
      go_wp2_with (first | (go_at_call 121; refine (u_isLetter s[k] _).mono ?_; rintro e w' ⟨rfl, rfl⟩) | (go_at_call 122; refine (u_isDigit s[k] _).mono ?_; rintro e w' ⟨rfl, rfl⟩) | (go_at_call 123; refine (Tryz.strings_Contains_one o s[k] _).mono ?_; rintro e w' ⟨rfl, rfl⟩))
      exact ⟨⟨k + 1, by omega, by go_num, Lib.hid (by rw [HS.out, HL.out, HO.out, h3]; simp)⟩, by simp [intOf]; omega⟩
     ·have h3' := eq_false_of_ne_true h3
      rw [h3'] at hi
      have HX : Hid (lettersB o.data.toList s.data.toList = false) := Lib.hid (HB.out (by rw [HO.out, h1', h2', h3']; rfl))
      clear h3 h3'
      go_wp2_with (first | (go_at_call 121; refine (u_isLetter s[k] _).mono ?_; rintro e w' ⟨rfl, rfl⟩) | (go_at_call 122; refine (u_isDigit s[k] _).mono ?_; rintro e w' ⟨rfl, rfl⟩) | (go_at_call 123; refine (Tryz.strings_Contains_one o s[k] _).mono ?_; rintro e w' ⟨rfl, rfl⟩))
      go_ret
      exact ⟨ret_bool (by rw [allB, HX.out]; rfl), rfl⟩
  ·obtain rfl : k = s.size := by omega
   have HX : Hid (lettersB o.data.toList s.data.toList = true) := Lib.hid (by have := HL.out; rwa [List.take_of_length_le (by simp)] at this)
   clear HL
   go_wp2_with fail
   all_goals go_ret
   ·exact ⟨ret_bool (nil_fact s (by assumption) _ _).symm, rfl⟩
   ·exact ⟨ret_bool (by rw [allB, HX.out]; exact len_fact s most), rfl⟩

set_option maxHeartbeats 1000000 in
theorem u_IsAbbr (s : ByteArray) (hs : s.size ≤ maxLen) (w : World) :
  Calls Tryz.prog 37 #[.string s] w fun e w' => e = .returned (.bool (isAbbrB s.data.toList)) ∧ w = w' := by
 go_enter Tryz.func37, Tryz.ntmps37
 go_wp2_with (go_at_call 71; refine (u_all s 8 ⟨#[43, 45]⟩ hs (by omega) _).mono ?_; rintro e w' ⟨rfl, rfl⟩)
 go_ret
 exact ⟨rfl, rfl⟩

set_option maxHeartbeats 1000000 in
theorem u_IsName (s : ByteArray) (hs : s.size ≤ maxLen) (w : World) :
  Calls Tryz.prog 98 #[.string s] w fun e w' => e = .returned (.bool (isNameB s.data.toList)) ∧ w = w' := by
 by_cases h : allB 20 [95, 47, 45] s.data.toList = true
 ·obtain ⟨h1, h2, h3⟩ := allB_len h
  have h1' : 0 < s.size := by rw [← size_len]; omega
  have HX := Lib.hid (show isNameB s.data.toList = isLetB s[0] by rw [isNameB, h, head_get s h1']; rfl)
  clear h1 h2 h3
  go_enter Tryz.func98, Tryz.ntmps98
  go_wp2_with (first | (go_at_call 71; refine (u_all s 20 ⟨#[95, 47, 45]⟩ hs (by omega) _).mono ?_; rintro e w' ⟨rfl, rfl⟩) | (go_at_call 121; refine (u_isLetter _ _).mono ?_; rintro e w' ⟨rfl, rfl⟩))
  go_ret
  exact ⟨ret_bool HX.out.symm, rfl⟩
 ·have h' := eq_false_of_ne_true h
  clear h
  have HX := Lib.hid (show isNameB s.data.toList = false by rw [isNameB, h']; rfl)
  go_enter Tryz.func98, Tryz.ntmps98
  go_wp2_with (first | (go_at_call 71; refine (u_all s 20 ⟨#[95, 47, 45]⟩ hs (by omega) _).mono ?_; rintro e w' ⟨rfl, rfl⟩) | (go_at_call 121; refine (u_isLetter _ _).mono ?_; rintro e w' ⟨rfl, rfl⟩))
  go_ret
  exact ⟨ret_bool HX.out.symm, rfl⟩
end Go.Proofs.YthppifcggmdmoaaGreatDoor

namespace Go.Proofs.YthppifcggmdmoaaGreatDoor
open Go.RowKit
set_option linter.unusedVariables false
set_option maxHeartbeats 400000 in
theorem b_within (n a b : Int) (w : World) :
  Calls Tryz.prog 32 #[.int .i64 n, .int .i64 a, .int .i64 b] w fun e w' => e = .returned (.bool (decide (a ≤ n ∧ n ≤ b))) ∧ w = w' := by
 by_cases h1 : a ≤ n
 all_goals
  go_enter Tryz.func32, Tryz.ntmps32
  go_wp2
  go_ret
  exact ⟨ret_bool (by simp; omega), rfl⟩
set_option maxHeartbeats 1000000 in
theorem b_isLetter (s : ByteArray) (hs : s.size ≤ maxLen) (w : World) :
  Calls Tryz.prog 31 #[.string s] w fun e w' => e = .returned (.bool (letOk s)) ∧ w = w' := by
 cases hD : (s.toList == [45]) with
 | true =>
  have HX := Lib.hid (show letOk s = true by rw [letOk, hD]; rfl)
  go_enter Tryz.func31, Tryz.ntmps31
  go_wp2_with fail
  go_ret
  exact ⟨ret_bool HX.out.symm, rfl⟩
 | false =>
  have HX := Lib.hid (show letOk s = isAbbrB s.data.toList by rw [letOk, hD]; rfl)
  go_enter Tryz.func31, Tryz.ntmps31
  go_wp2_with (first | (go_at_call 37; refine (u_IsAbbr _ hs _).mono ?_; rintro e w' ⟨rfl, rfl⟩))
  go_ret
  exact ⟨ret_bool HX.out.symm, rfl⟩
theorem cut_sizes (F : ByteArray) (c : UInt8) (h : F.size ≤ 12) : (cutA F c).size ≤ 12 ∧ (cutB F c).size ≤ 12 := by
 unfold cutA cutB; rw [ByteArray.size_extract, ByteArray.size_extract]; omega
set_option maxRecDepth 100000 in
set_option maxHeartbeats 2000000 in
theorem b_split_slash (F : ByteArray) (k : Nat) (h : F.size ≤ 12) (hk : ixB F 47 = k) (w : World) :
  Calls Tryz.prog 30 #[.string F] w fun e w' => e = .returned (.tuple #[.string (cutA F 47), .string (cutB F 47), .string ⟨#[47]⟩, .bool (isAbbrB (cutA F 47).data.toList && isAbbrB (cutB F 47).data.toList)]) ∧ Below w.heap.size w w' := by
 have hm : F.size ≤ maxLen := by unfold maxLen; omega
 obtain ⟨sa, sb⟩ := cut_sizes F 47 h
 have hma : (cutA F 47).size ≤ maxLen := by unfold maxLen; omega
 have hmb : (cutB F 47).size ≤ maxLen := by unfold maxLen; omega
 have HC := Lib.hid (show ∀ w, Calls Tryz.prog 69 #[.string F, .string ⟨#[47]⟩] w fun e w' => e = .returned (.tuple #[.string (cutA F 47), .string (cutB F 47), .bool true]) ∧ ∃ n, w' = w.drewN n from fun w => by
  have := str_cut_yes F 47 k hm hk w
  rw [cutA, cutB, hk]; exact this)
 have HMA := Lib.hid hma
 have HMB := Lib.hid hmb
 have HM := Lib.hid hm
 have HK := Lib.hid hk
 clear hk hm hma hmb
 go_enter Tryz.func30, Tryz.ntmps30
 go_wp2_with fail
 go_loopw [16] (fun i wr => i = .int .i64 0 ∧ wr = (w.alloc (.cells #[.string ⟨#[47]⟩, .string ⟨#[37]⟩] 9))) (fun _ _ => 0)
 case atStart => exact ⟨rfl, rfl⟩
 case round =>
  obtain ⟨rfl, rfl⟩ := hrel
  go_wp2_with (first | (go_at_call 69; refine (HC.out _).mono ?_; rintro e w' ⟨rfl, n, rfl⟩) | (go_at_call 37; refine (u_IsAbbr _ HMA.out _).mono ?_; rintro e w' ⟨rfl, rfl⟩) | (go_at_call 37; refine (u_IsAbbr _ HMB.out _).mono ?_; rintro e w' ⟨rfl, rfl⟩))
  all_goals
   refine bodyPost_ret (v := .tuple #[.string (cutA F 47), .string (cutB F 47), .string ⟨#[47]⟩, .bool (isAbbrB (cutA F 47).data.toList && isAbbrB (cutB F 47).data.toList)]) (by simp [results, Tryz.results30, go_sem, *]) rfl ⟨rfl, (by repeat (first | exact Below.refl _ _ | assumption | apply Below.drew | apply below_drewN | (refine Below.alloc ?_ (by simp; try omega) _) | (refine Below.setCell ?_ (by simp; try omega) _)))⟩

end Go.Proofs.YthppifcggmdmoaaGreatDoor

namespace Go.Proofs.YthppifcggmdmoaaGreatDoor
open Go.RowKit
set_option linter.unusedVariables false
set_option maxRecDepth 100000 in
set_option maxHeartbeats 2000000 in
theorem b_split_pct (F : ByteArray) (k : Nat) (h : F.size ≤ 12) (hs : ixB F 47 = -1) (hk : ixB F 37 = k) (w : World) :
  Calls Tryz.prog 30 #[.string F] w fun e w' => e = .returned (.tuple #[.string (cutA F 37), .string (cutB F 37), .string ⟨#[37]⟩, .bool (pctOk (cutA F 37 ++ cutB F 37))]) ∧ Below w.heap.size w w' := by
 have hm : F.size ≤ maxLen := by unfold maxLen; omega
 obtain ⟨sa, sb⟩ := cut_sizes F 37 h
 have sab : (cutA F 37 ++ cutB F 37).size ≤ 24 := by rw [ByteArray.size_append]; omega
 have hmab : (cutA F 37 ++ cutB F 37).size ≤ maxLen := by unfold maxLen; omega
 have HC := Lib.hid (show ∀ w, Calls Tryz.prog 69 #[.string F, .string ⟨#[37]⟩] w fun e w' => e = .returned (.tuple #[.string (cutA F 37), .string (cutB F 37), .bool true]) ∧ ∃ n, w' = w.drewN n from fun w => by
  have := str_cut_yes F 37 k hm hk w
  rw [cutA, cutB, hk]; exact this)
 have HN := Lib.hid (fun w => str_cut_no F 47 hs w)
 have HMA := Lib.hid hmab
 clear hk hm hmab hs
 have hz : ∀ q : ByteArray, q.size = 0 → q.toList = [] := fun q hq => by rw [ByteArray.toList_eq]; exact List.length_eq_zero_iff.1 (by rw [size_len]; exact hq)
 have hcase : ((cutA F 37 ++ cutB F 37).toList = [] ∧ pctOk (cutA F 37 ++ cutB F 37) = true) ∨ ((cutA F 37 ++ cutB F 37).toList.isEmpty = false ∧ (cutA F 37).size + (cutB F 37).size ≤ 8 ∧ pctOk (cutA F 37 ++ cutB F 37) = isAbbrB (cutA F 37 ++ cutB F 37).data.toList) ∨ ((cutA F 37 ++ cutB F 37).toList.isEmpty = false ∧ 8 < (cutA F 37).size + (cutB F 37).size ∧ pctOk (cutA F 37 ++ cutB F 37) = false) := by
  have hsz : (cutA F 37 ++ cutB F 37).size = (cutA F 37).size + (cutB F 37).size := ByteArray.size_append
  have hne : ¬ (cutA F 37 ++ cutB F 37).size = 0 → (cutA F 37 ++ cutB F 37).toList.isEmpty = false := fun h0 => by
   rw [ByteArray.toList_eq]
   cases hl : (cutA F 37 ++ cutB F 37).data.toList with
   | nil => exfalso; apply h0; rw [← size_len, hl]; rfl
   | cons => rfl
  by_cases h0 : (cutA F 37 ++ cutB F 37).size = 0
  ·exact Or.inl ⟨hz _ h0, by rw [pctOk, decide_eq_true h0]; rfl⟩
  ·by_cases h8 : (cutA F 37 ++ cutB F 37).size ≤ 8
   ·exact Or.inr (Or.inl ⟨hne h0, by omega, by rw [pctOk, decide_eq_false h0, Bool.false_or]⟩)
   ·exact Or.inr (Or.inr ⟨hne h0, by omega, by rw [pctOk, decide_eq_false h0, Bool.false_or, isAbbrB, allB, size_len, decide_eq_false (by omega), Bool.and_false]⟩)
 clear hz sab
 have HP := Lib.hid hcase
 clear hcase
 go_enter Tryz.func30, Tryz.ntmps30
 go_wp2_with fail
 go_loopw [16] (fun i wr => ∃ n, (i = .int .i64 0 ∨ i = .int .i64 1) ∧ wr = (w.alloc (.cells #[.string ⟨#[47]⟩, .string ⟨#[37]⟩] 9)).drewN n) (fun i _ => (2 - intOf i).toNat)
 case atStart => exact ⟨0, Or.inl rfl, rfl⟩
 case round =>
  obtain ⟨n, hi, rfl⟩ := hrel
  rcases hi with rfl | rfl
  ·go_wp2_with (first | (go_at_call 69; refine (HN.out _).mono ?_; rintro e w' ⟨rfl, n', rfl⟩))
   exact ⟨⟨_, Or.inr rfl, rfl⟩, by simp [intOf]⟩
  ·rcases HP.out with ⟨he, hp⟩ | ⟨he, h8, hp⟩ | ⟨he, h8, hp⟩
   all_goals
    have HQ := Lib.hid hp
    clear hp HP
    go_wp2_with (first | (go_at_call 69; refine (HC.out _).mono ?_; rintro e w' ⟨rfl, n', rfl⟩) | (go_at_call 37; refine (u_IsAbbr _ HMA.out _).mono ?_; rintro e w' ⟨rfl, rfl⟩))
    rw [HQ.out]
    refine bodyPost_ret (by simp only [results, Tryz.results30]; simp [go_sem]) rfl ⟨rfl, (by repeat (first | exact Below.refl _ _ | assumption | apply Below.drew | apply below_drewN | (refine Below.alloc ?_ (by simp; try omega) _) | (refine Below.setCell ?_ (by simp; try omega) _)))⟩

set_option maxRecDepth 100000 in
set_option maxHeartbeats 2000000 in
theorem b_split_none (F : ByteArray) (h : F.size ≤ 12) (hs : ixB F 47 = -1) (hp : ixB F 37 = -1) (w : World) :
  Calls Tryz.prog 30 #[.string F] w fun e w' => e = .returned (.tuple #[.string F, .string ⟨#[]⟩, .string ⟨#[]⟩, .bool (isAbbrB F.data.toList)]) ∧ Below w.heap.size w w' := by
 have hm : F.size ≤ maxLen := by unfold maxLen; omega
 have HN := Lib.hid (fun w => str_cut_no F 47 hs w)
 have HC := Lib.hid (fun w => str_cut_no F 37 hp w)
 have HM := Lib.hid hm
 clear hm hs hp
 go_enter Tryz.func30, Tryz.ntmps30
 go_wp2_with fail
 go_loopw [16] (fun i wr => ∃ n, (i = .int .i64 0 ∨ i = .int .i64 1 ∨ i = .int .i64 2) ∧ wr = (w.alloc (.cells #[.string ⟨#[47]⟩, .string ⟨#[37]⟩] 9)).drewN n) (fun i _ => (3 - intOf i).toNat)
 case atStart => exact ⟨0, Or.inl rfl, rfl⟩
 case round =>
  obtain ⟨n, hi, rfl⟩ := hrel
  rcases hi with rfl | rfl | rfl
  ·go_wp2_with (first | (go_at_call 69; refine (HN.out _).mono ?_; rintro e w' ⟨rfl, n', rfl⟩))
   exact ⟨⟨_, Or.inr (Or.inl rfl), rfl⟩, by simp [intOf]⟩
  ·go_wp2_with (first | (go_at_call 69; refine (HC.out _).mono ?_; rintro e w' ⟨rfl, n', rfl⟩))
   exact ⟨⟨_, Or.inr (Or.inr rfl), rfl⟩, by simp [intOf]⟩
  ·go_wp2_with (first | (go_at_call 37; refine (u_IsAbbr _ HM.out _).mono ?_; rintro e w' ⟨rfl, rfl⟩))
   refine bodyPost_ret (by simp only [results, Tryz.results30]; simp [go_sem]) rfl ⟨rfl, (by repeat (first | exact Below.refl _ _ | assumption | apply Below.drew | apply below_drewN | (refine Below.alloc ?_ (by simp; try omega) _) | (refine Below.setCell ?_ (by simp; try omega) _)))⟩
set_option maxRecDepth 100000 in
set_option maxHeartbeats 2000000 in
theorem b_split_big (F : ByteArray) (h : 12 < F.size) (w : World) :
  Calls Tryz.prog 30 #[.string F] w fun e w' => e = .returned (.tuple #[.string ⟨#[]⟩, .string ⟨#[]⟩, .string ⟨#[]⟩, .bool false]) ∧ Below w.heap.size w w' := by
 go_enter Tryz.func30, Tryz.ntmps30
 go_wp2_with fail
 refine bodyPost_ret (by simp only [results, Tryz.results30]; simp [go_sem]) rfl ⟨rfl, (by repeat (first | exact Below.refl _ _ | assumption | apply Below.drew | apply below_drewN | (refine Below.alloc ?_ (by simp; try omega) _) | (refine Below.setCell ?_ (by simp; try omega) _)))⟩
theorem b_split_any (F : ByteArray) : ∃ a b sg : ByteArray, ∀ w : World,
  Calls Tryz.prog 30 #[.string F] w fun e w' => e = .returned (.tuple #[.string a, .string b, .string sg, .bool (fmtOk F)]) ∧ Below w.heap.size w w' := by
 by_cases h : 12 < F.size
 ·exact ⟨_, _, _, fun w => by rw [fmtOk, if_pos h]; exact b_split_big F h w⟩
 ·rcases ix_cases F 47 with hs | ⟨k, hs, _⟩
  ·rcases ix_cases F 37 with hp | ⟨j, hp, _⟩
   ·exact ⟨_, _, _, fun w => by rw [fmtOk, if_neg h, if_neg (by omega), if_neg (by omega)]; exact b_split_none F (by omega) hs hp w⟩
   ·exact ⟨_, _, _, fun w => by rw [fmtOk, if_neg h, if_neg (by omega), if_pos (by omega)]; exact b_split_pct F j (by omega) hs hp w⟩
  ·exact ⟨_, _, _, fun w => by rw [fmtOk, if_neg h, if_pos (by omega)]; exact b_split_slash F k (by omega) hs w⟩
end Go.Proofs.YthppifcggmdmoaaGreatDoor

