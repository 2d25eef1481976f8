/- Walk of book.split where there is a place for a letter, or no sign. -/
import Derived.Test.YtanaoohgpdcfjaaGreatDoorAbbrA
namespace Go.Proofs.YtanaoohgpdcfjaaGreatDoor
open Go.RowKit
set_option linter.unusedVariables false
set_option maxRecDepth 100000 in
set_option maxHeartbeats 2000000 in
theorem b_split_pct (F : ByteArray) (k : Nat) (h : F.size ≤ 12) (hs : ixB F 47 = -1) (hk : ixB F 37 = k) (w : World) :
    Calls Tryz.prog 75 #[.string F] w fun e w' => e = .returned (.tuple #[.string (cutA F 37), .string (cutB F 37), .string ⟨#[37]⟩, .bool (pctOk (cutA F 37 ++ cutB F 37))]) ∧ Below w.heap.size w w' := by
  have hm : F.size ≤ maxLen := by unfold maxLen; omega
  obtain ⟨sa, sb⟩ := cut_sizes F 37 h
  have sab : (cutA F 37 ++ cutB F 37).size ≤ 24 := by rw [ByteArray.size_append]; omega
  have hmab : (cutA F 37 ++ cutB F 37).size ≤ maxLen := by unfold maxLen; omega
  have HC := Lib.hid (show ∀ w, Calls Tryz.prog 117 #[.string F, .string ⟨#[37]⟩] w fun e w' => e = .returned (.tuple #[.string (cutA F 37), .string (cutB F 37), .bool true]) ∧ ∃ n, w' = w.drewN n from fun w => by
    have := str_cut_yes F 37 k hm hk w
    rw [cutA, cutB, hk]; exact this)
  have HN := Lib.hid (fun w => str_cut_no F 47 hs w)
  have HMA := Lib.hid hmab
  clear hk hm hmab hs
  have hz : ∀ q : ByteArray, q.size = 0 → q.toList = [] := fun q hq => by rw [ByteArray.toList_eq]; exact List.length_eq_zero_iff.1 (by rw [size_len]; exact hq)
  have hcase : ((cutA F 37 ++ cutB F 37).toList = [] ∧ pctOk (cutA F 37 ++ cutB F 37) = true) ∨ ((cutA F 37 ++ cutB F 37).toList.isEmpty = false ∧ (cutA F 37).size + (cutB F 37).size ≤ 8 ∧ pctOk (cutA F 37 ++ cutB F 37) = isAbbrB (cutA F 37 ++ cutB F 37).data.toList) ∨ ((cutA F 37 ++ cutB F 37).toList.isEmpty = false ∧ 8 < (cutA F 37).size + (cutB F 37).size ∧ pctOk (cutA F 37 ++ cutB F 37) = false) := by
    have hsz : (cutA F 37 ++ cutB F 37).size = (cutA F 37).size + (cutB F 37).size := ByteArray.size_append
    have hne : ¬ (cutA F 37 ++ cutB F 37).size = 0 → (cutA F 37 ++ cutB F 37).toList.isEmpty = false := fun h0 => by
      rw [ByteArray.toList_eq]
      cases hl : (cutA F 37 ++ cutB F 37).data.toList with
      | nil => exfalso; apply h0; rw [← size_len, hl]; rfl
      | cons => rfl
    by_cases h0 : (cutA F 37 ++ cutB F 37).size = 0
    · exact Or.inl ⟨hz _ h0, by rw [pctOk, decide_eq_true h0]; rfl⟩
    · by_cases h8 : (cutA F 37 ++ cutB F 37).size ≤ 8
      · exact Or.inr (Or.inl ⟨hne h0, by omega, by rw [pctOk, decide_eq_false h0, Bool.false_or]⟩)
      · exact Or.inr (Or.inr ⟨hne h0, by omega, by rw [pctOk, decide_eq_false h0, Bool.false_or, isAbbrB, allB, size_len, decide_eq_false (by omega), Bool.and_false]⟩)
  clear hz sab
  have HP := Lib.hid hcase
  clear hcase
  go_enter Tryz.func75, Tryz.ntmps75
  go_wp2_with fail
  go_loopw [16] (fun i wr => ∃ n, (i = .int .i64 0 ∨ i = .int .i64 1) ∧ wr = (w.alloc (.cells #[.string ⟨#[47]⟩, .string ⟨#[37]⟩] 9)).drewN n) (fun i _ => (2 - intOf i).toNat)
  case atStart => exact ⟨0, Or.inl rfl, rfl⟩
  case round =>
    obtain ⟨n, hi, rfl⟩ := hrel
    rcases hi with rfl | rfl
    · go_wp2_with (first | (go_at_call 117; refine (HN.out _).mono ?_; rintro e w' ⟨rfl, n', rfl⟩))
      exact ⟨⟨_, Or.inr rfl, rfl⟩, by simp [intOf]⟩
    · rcases HP.out with ⟨he, hp⟩ | ⟨he, h8, hp⟩ | ⟨he, h8, hp⟩
      all_goals
        have HQ := Lib.hid hp
        clear hp HP
        go_wp2_with (first | (go_at_call 117; refine (HC.out _).mono ?_; rintro e w' ⟨rfl, n', rfl⟩) | (go_at_call 56; refine (u_IsAbbr _ HMA.out _).mono ?_; rintro e w' ⟨rfl, rfl⟩))
        rw [HQ.out]
        refine bodyPost_ret (by simp only [results, Tryz.results75]; simp [go_sem]) rfl ⟨rfl, (by repeat (first | exact Below.refl _ _ | assumption | apply Below.drew | apply below_drewN | (refine Below.alloc ?_ (by simp; try omega) _) | (refine Below.setCell ?_ (by simp; try omega) _)))⟩

set_option maxRecDepth 100000 in
set_option maxHeartbeats 2000000 in
theorem b_split_none (F : ByteArray) (h : F.size ≤ 12) (hs : ixB F 47 = -1) (hp : ixB F 37 = -1) (w : World) :
    Calls Tryz.prog 75 #[.string F] w fun e w' => e = .returned (.tuple #[.string F, .string ⟨#[]⟩, .string ⟨#[]⟩, .bool (isAbbrB F.data.toList)]) ∧ Below w.heap.size w w' := by
  have hm : F.size ≤ maxLen := by unfold maxLen; omega
  have HN := Lib.hid (fun w => str_cut_no F 47 hs w)
  have HC := Lib.hid (fun w => str_cut_no F 37 hp w)
  have HM := Lib.hid hm
  clear hm hs hp
  go_enter Tryz.func75, Tryz.ntmps75
  go_wp2_with fail
  go_loopw [16] (fun i wr => ∃ n, (i = .int .i64 0 ∨ i = .int .i64 1 ∨ i = .int .i64 2) ∧ wr = (w.alloc (.cells #[.string ⟨#[47]⟩, .string ⟨#[37]⟩] 9)).drewN n) (fun i _ => (3 - intOf i).toNat)
  case atStart => exact ⟨0, Or.inl rfl, rfl⟩
  case round =>
    obtain ⟨n, hi, rfl⟩ := hrel
    rcases hi with rfl | rfl | rfl
    · go_wp2_with (first | (go_at_call 117; refine (HN.out _).mono ?_; rintro e w' ⟨rfl, n', rfl⟩))
      exact ⟨⟨_, Or.inr (Or.inl rfl), rfl⟩, by simp [intOf]⟩
    · go_wp2_with (first | (go_at_call 117; refine (HC.out _).mono ?_; rintro e w' ⟨rfl, n', rfl⟩))
      exact ⟨⟨_, Or.inr (Or.inr rfl), rfl⟩, by simp [intOf]⟩
    · go_wp2_with (first | (go_at_call 56; refine (u_IsAbbr _ HM.out _).mono ?_; rintro e w' ⟨rfl, rfl⟩))
      refine bodyPost_ret (by simp only [results, Tryz.results75]; simp [go_sem]) rfl ⟨rfl, (by repeat (first | exact Below.refl _ _ | assumption | apply Below.drew | apply below_drewN | (refine Below.alloc ?_ (by simp; try omega) _) | (refine Below.setCell ?_ (by simp; try omega) _)))⟩
set_option maxRecDepth 100000 in
set_option maxHeartbeats 2000000 in
theorem b_split_big (F : ByteArray) (h : 12 < F.size) (w : World) :
    Calls Tryz.prog 75 #[.string F] w fun e w' => e = .returned (.tuple #[.string ⟨#[]⟩, .string ⟨#[]⟩, .string ⟨#[]⟩, .bool false]) ∧ Below w.heap.size w w' := by
  go_enter Tryz.func75, Tryz.ntmps75
  go_wp2_with fail
  refine bodyPost_ret (by simp only [results, Tryz.results75]; simp [go_sem]) rfl ⟨rfl, (by repeat (first | exact Below.refl _ _ | assumption | apply Below.drew | apply below_drewN | (refine Below.alloc ?_ (by simp; try omega) _) | (refine Below.setCell ?_ (by simp; try omega) _)))⟩
theorem b_split_any (F : ByteArray) : ∃ a b sg : ByteArray, ∀ w : World,
    Calls Tryz.prog 75 #[.string F] w fun e w' => e = .returned (.tuple #[.string a, .string b, .string sg, .bool (fmtOk F)]) ∧ Below w.heap.size w w' := by
  by_cases h : 12 < F.size
  · exact ⟨_, _, _, fun w => by rw [fmtOk, if_pos h]; exact b_split_big F h w⟩
  · rcases ix_cases F 47 with hs | ⟨k, hs, _⟩
    · rcases ix_cases F 37 with hp | ⟨j, hp, _⟩
      · exact ⟨_, _, _, fun w => by rw [fmtOk, if_neg h, if_neg (by omega), if_neg (by omega)]; exact b_split_none F (by omega) hs hp w⟩
      · exact ⟨_, _, _, fun w => by rw [fmtOk, if_neg h, if_neg (by omega), if_pos (by omega)]; exact b_split_pct F j (by omega) hs hp w⟩
    · exact ⟨_, _, _, fun w => by rw [fmtOk, if_neg h, if_pos (by omega)]; exact b_split_slash F k (by omega) hs w⟩
end Go.Proofs.YtanaoohgpdcfjaaGreatDoor
