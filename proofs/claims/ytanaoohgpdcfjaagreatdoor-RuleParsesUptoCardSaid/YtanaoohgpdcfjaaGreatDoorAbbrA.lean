/- Walks of book.split and book.Abbr. -/
import Derived.Test.YtanaoohgpdcfjaaGreatDoorPln
import Derived.Test.YtanaoohgpdcfjaaGreatDoorCut
import Derived.Test.YtanaoohgpdcfjaaGreatDoorRuleA
namespace Go.Proofs.YtanaoohgpdcfjaaGreatDoor
open Go.RowKit
set_option linter.unusedVariables false
set_option maxHeartbeats 400000 in
theorem b_within (n a b : Int) (w : World) :
    Calls Tryz.prog 77 #[.int .i64 n, .int .i64 a, .int .i64 b] w fun e w' => e = .returned (.bool (decide (a ≤ n ∧ n ≤ b))) ∧ w = w' := by
  by_cases h1 : a ≤ n
  all_goals
    go_enter Tryz.func77, Tryz.ntmps77
    go_wp2
    go_ret
    exact ⟨ret_bool (by simp; omega), rfl⟩
set_option maxHeartbeats 1000000 in
theorem b_isLetter (s : ByteArray) (hs : s.size ≤ maxLen) (w : World) :
    Calls Tryz.prog 76 #[.string s] w fun e w' => e = .returned (.bool (letOk s)) ∧ w = w' := by
  cases hD : (s.toList == [45]) with
  | true =>
    have HX := Lib.hid (show letOk s = true by rw [letOk, hD]; rfl)
    go_enter Tryz.func76, Tryz.ntmps76
    go_wp2_with fail
    go_ret
    exact ⟨ret_bool HX.out.symm, rfl⟩
  | false =>
    have HX := Lib.hid (show letOk s = isAbbrB s.data.toList by rw [letOk, hD]; rfl)
    go_enter Tryz.func76, Tryz.ntmps76
    go_wp2_with (first | (go_at_call 56; refine (u_IsAbbr _ hs _).mono ?_; rintro e w' ⟨rfl, rfl⟩))
    go_ret
    exact ⟨ret_bool HX.out.symm, rfl⟩
theorem cut_sizes (F : ByteArray) (c : UInt8) (h : F.size ≤ 12) : (cutA F c).size ≤ 12 ∧ (cutB F c).size ≤ 12 := by
  unfold cutA cutB; rw [ByteArray.size_extract, ByteArray.size_extract]; omega
set_option maxRecDepth 100000 in
set_option maxHeartbeats 2000000 in
theorem b_split_slash (F : ByteArray) (k : Nat) (h : F.size ≤ 12) (hk : ixB F 47 = k) (w : World) :
    Calls Tryz.prog 75 #[.string F] w fun e w' => e = .returned (.tuple #[.string (cutA F 47), .string (cutB F 47), .string ⟨#[47]⟩, .bool (isAbbrB (cutA F 47).data.toList && isAbbrB (cutB F 47).data.toList)]) ∧ Below w.heap.size w w' := by
  have hm : F.size ≤ maxLen := by unfold maxLen; omega
  obtain ⟨sa, sb⟩ := cut_sizes F 47 h
  have hma : (cutA F 47).size ≤ maxLen := by unfold maxLen; omega
  have hmb : (cutB F 47).size ≤ maxLen := by unfold maxLen; omega
  have HC := Lib.hid (show ∀ w, Calls Tryz.prog 117 #[.string F, .string ⟨#[47]⟩] w fun e w' => e = .returned (.tuple #[.string (cutA F 47), .string (cutB F 47), .bool true]) ∧ ∃ n, w' = w.drewN n from fun w => by
    have := str_cut_yes F 47 k hm hk w
    rw [cutA, cutB, hk]; exact this)
  have HMA := Lib.hid hma
  have HMB := Lib.hid hmb
  have HM := Lib.hid hm
  have HK := Lib.hid hk
  clear hk hm hma hmb
  go_enter Tryz.func75, Tryz.ntmps75
  go_wp2_with fail
  go_loopw [16] (fun i wr => i = .int .i64 0 ∧ wr = (w.alloc (.cells #[.string ⟨#[47]⟩, .string ⟨#[37]⟩] 9))) (fun _ _ => 0)
  case atStart => exact ⟨rfl, rfl⟩
  case round =>
    obtain ⟨rfl, rfl⟩ := hrel
    go_wp2_with (first | (go_at_call 117; refine (HC.out _).mono ?_; rintro e w' ⟨rfl, n, rfl⟩) | (go_at_call 56; refine (u_IsAbbr _ HMA.out _).mono ?_; rintro e w' ⟨rfl, rfl⟩) | (go_at_call 56; refine (u_IsAbbr _ HMB.out _).mono ?_; rintro e w' ⟨rfl, rfl⟩))
    all_goals
      refine bodyPost_ret (v := .tuple #[.string (cutA F 47), .string (cutB F 47), .string ⟨#[47]⟩, .bool (isAbbrB (cutA F 47).data.toList && isAbbrB (cutB F 47).data.toList)]) (by simp [results, Tryz.results75, go_sem, *]) rfl ⟨rfl, (by repeat (first | exact Below.refl _ _ | assumption | apply Below.drew | apply below_drewN | (refine Below.alloc ?_ (by simp; try omega) _) | (refine Below.setCell ?_ (by simp; try omega) _)))⟩

end Go.Proofs.YtanaoohgpdcfjaaGreatDoor
