/- strings.Cut at a separator of one byte. -/
import Derived.Test.YtanaoohgpdcfjaaGreatDoorPln
import Derived.Test.YtanaoohgpdcfjaaGreatDoorShelf
namespace Go.Proofs.YtanaoohgpdcfjaaGreatDoor
open Go.RowKit
set_option linter.unusedVariables false
set_option maxHeartbeats 1000000 in
theorem lib_cut_yes (s : ByteArray) (c : UInt8) (k : Nat) (hs : s.size ≤ maxLen) (h : Lib.indexByte s.data.toList c = (k : Int)) (w : World) :
    Calls Tryz.prog 164 #[.string s, .string ⟨#[c]⟩] w fun e w' => e = .returned (.tuple #[.string (s.extract 0 k), .string (s.extract (k + 1) s.size), .bool true]) ∧ ∃ n, w' = w.drewN n := by
  unfold maxLen at hs
  have hk : k < s.size := by
    have := (Lib.indexByte_some h).1
    have := (List.getElem?_eq_some_iff.1 this).1
    simpa using this
  go_enter Tryz.func164, Tryz.ntmps164
  go_wp2_with (first | (go_at_call 188; refine (Tryz.stringslite_Index_one s c _).mono ?_; rintro e w' ⟨rfl, rfl⟩))
  have e1 : IntKind.i64.wrap ((k : Int) + 1) = (k : Int) + 1 := IntWalk.i64_in _ (by omega)
  have e2 : (0 : Int) ≤ (k : Int) + 1 := by omega
  have e3 : (k : Int) + 1 ≤ (s.size : Int) := by omega
  have e4 : ((k : Int) + 1).toNat = k + 1 := by omega
  have e5 : (k : Int) ≤ (s.size : Int) := by omega
  have e6 : (0 : Int) ≤ (k : Int) := by omega
  go_quiet (fail)
  go_wp2_with fail
  go_ret3
  exact ⟨rfl, _, rfl⟩
set_option maxHeartbeats 1000000 in
theorem lib_cut_no (s : ByteArray) (c : UInt8) (h : Lib.indexByte s.data.toList c = -1) (w : World) :
    Calls Tryz.prog 164 #[.string s, .string ⟨#[c]⟩] w fun e w' => e = .returned (.tuple #[.string s, .string ⟨#[]⟩, .bool false]) ∧ ∃ n, w' = w.drewN n := by
  go_enter Tryz.func164, Tryz.ntmps164
  go_wp2_with (first | (go_at_call 188; refine (Tryz.stringslite_Index_one s c _).mono ?_; rintro e w' ⟨rfl, rfl⟩))
  go_ret3
  exact ⟨rfl, 0, rfl⟩
set_option maxHeartbeats 1000000 in
theorem str_cut_yes (s : ByteArray) (c : UInt8) (k : Nat) (hs : s.size ≤ maxLen) (h : Lib.indexByte s.data.toList c = (k : Int)) (w : World) :
    Calls Tryz.prog 117 #[.string s, .string ⟨#[c]⟩] w fun e w' => e = .returned (.tuple #[.string (s.extract 0 k), .string (s.extract (k + 1) s.size), .bool true]) ∧ ∃ n, w' = w.drewN n := by
  have H := Lib.hid h
  clear h
  go_enter Tryz.func117, Tryz.ntmps117
  go_wp2_with (first | (go_at_call 164; refine (lib_cut_yes s c k hs H.out _).mono ?_; rintro e w' ⟨rfl, n, rfl⟩))
  go_ret3
  exact ⟨rfl, _, rfl⟩
set_option maxHeartbeats 1000000 in
theorem str_cut_no (s : ByteArray) (c : UInt8) (h : Lib.indexByte s.data.toList c = -1) (w : World) :
    Calls Tryz.prog 117 #[.string s, .string ⟨#[c]⟩] w fun e w' => e = .returned (.tuple #[.string s, .string ⟨#[]⟩, .bool false]) ∧ ∃ n, w' = w.drewN n := by
  have H := Lib.hid h
  clear h
  go_enter Tryz.func117, Tryz.ntmps117
  go_wp2_with (first | (go_at_call 164; refine (lib_cut_no s c H.out _).mono ?_; rintro e w' ⟨rfl, n, rfl⟩))
  go_ret3
  exact ⟨rfl, _, rfl⟩
end Go.Proofs.YtanaoohgpdcfjaaGreatDoor
