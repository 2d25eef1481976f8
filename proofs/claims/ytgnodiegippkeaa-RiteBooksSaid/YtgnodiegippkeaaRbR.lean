/- Walk of the reference's RiteBook: its errors. -/
import Derived.Test.YtgnodiegippkeaaRbB
import Derived.Test.YtgnodiegippkeaaRbO
import Derived.Test.YtgnodiegippkeaaRiR2
import Derived.Test.YtgnodiegippkeaaRuleR2
namespace Go.Proofs.Ytgnodiegippkeaa
open Go.RowKit
set_option linter.unusedVariables false
set_option maxRecDepth 100000 in
set_option maxHeartbeats 2000000 in
theorem r_Book_bad (name also : ByteArray) (off aoff m1 k1 d1 a1 m2 k2 d2 a2 : Int) (nm : ByteArray) (fr to : Int) (hn : name.size ≤ maxLen) (hl : also.size ≤ maxLen) (hm : nm.size ≤ maxLen) (h : ¬ posE name off also aoff m1 k1 d1 a1 m2 k2 d2 a2 = 0) (w : World) :
    Calls Try.prog 35 #[.agg #[.string name, .int .i64 off, .string also, .int .i64 aoff, .int .i64 m1, .int .i64 k1, .int .i64 d1, .int .i64 a1, .int .i64 m2, .int .i64 k2, .int .i64 d2, .int .i64 a2], .string nm, .int .i64 fr, .int .i64 to] w fun e w' => e = .returned (.tuple #[.agg #[.slice none 0 0, .slice none 0 0, .slice none 0 0], .int .i64 (posE name off also aoff m1 k1 d1 a1 m2 k2 d2 a2)]) ∧ Below w.heap.size w w' := by
  have HS := Lib.hid (R4.start w #[.string name, .int .i64 off, .string also, .int .i64 aoff, .int .i64 m1, .int .i64 k1, .int .i64 d1, .int .i64 a1, .int .i64 m2, .int .i64 k2, .int .i64 d2, .int .i64 a2] fr to 57 3 64)
  go_enter Try.func35, Try.ntmps35
  go_wp2_with fail
  refine (r_RiteCheck _ _ _ _ _ _ _ _ _ _ _ _ hn hl _).mono ?_
  rintro e w1 ⟨rfl, hb⟩
  replace HS := Lib.hid (HS.out.step hb)
  clear hb
  have hcs := HS.out.1.1
  have hf1 := HS.out.2.1.1
  have hf2 := HS.out.2.2.1.1
  have hr := HS.out.2.2.2.1.1
  have hfr := HS.out.2.2.2.1.2.1
  have hsz := HS.out.2.2.2.1.2.2
  have hB := HS.out.2.2.2.2
  go_wp2_with fail
  refine bodyPost_ret (v := .tuple #[.agg #[.slice none 0 0, .slice none 0 0, .slice none 0 0], .int .i64 (posE name off also aoff m1 k1 d1 a1 m2 k2 d2 a2)]) (by simp [results, Try.results35, go_sem, hr]) rfl ⟨rfl, (by repeat (first | exact Below.refl _ _ | assumption | apply Below.drew | apply below_drewN | (refine Below.alloc ?_ (by simp; try omega) _) | (refine Below.setCell ?_ (by simp; try omega) _)))⟩
set_option maxRecDepth 100000 in
set_option maxHeartbeats 2000000 in
theorem r_Book_3 (name also : ByteArray) (off aoff m1 k1 d1 a1 m2 k2 d2 a2 : Int) (nm : ByteArray) (fr to : Int) (hn : name.size ≤ maxLen) (hl : also.size ≤ maxLen) (hm : nm.size ≤ maxLen) (h : posE name off also aoff m1 k1 d1 a1 m2 k2 d2 a2 = 0) (h2 : isNameB nm.data.toList = false) (w : World) :
    Calls Try.prog 35 #[.agg #[.string name, .int .i64 off, .string also, .int .i64 aoff, .int .i64 m1, .int .i64 k1, .int .i64 d1, .int .i64 a1, .int .i64 m2, .int .i64 k2, .int .i64 d2, .int .i64 a2], .string nm, .int .i64 fr, .int .i64 to] w fun e w' => e = .returned (.tuple #[.agg #[.slice none 0 0, .slice none 0 0, .slice none 0 0], .int .i64 (3)]) ∧ Below w.heap.size w w' := by
  have HS := Lib.hid (R4.start w #[.string name, .int .i64 off, .string also, .int .i64 aoff, .int .i64 m1, .int .i64 k1, .int .i64 d1, .int .i64 a1, .int .i64 m2, .int .i64 k2, .int .i64 d2, .int .i64 a2] fr to 57 3 64)
  go_enter Try.func35, Try.ntmps35
  go_wp2_with fail
  refine (r_RiteCheck _ _ _ _ _ _ _ _ _ _ _ _ hn hl _).mono ?_
  rintro e w1 ⟨rfl, hb⟩
  replace HS := Lib.hid (HS.out.step hb)
  clear hb
  have hcs := HS.out.1.1
  go_wp2_with fail
  refine (r_IsName _ hm _).mono ?_
  rintro e w2 ⟨rfl, hb⟩
  replace HS := Lib.hid (HS.out.step hb)
  clear hb hcs
  have hcs := HS.out.1.1
  have hf1 := HS.out.2.1.1
  have hf2 := HS.out.2.2.1.1
  have hr := HS.out.2.2.2.1.1
  have hfr := HS.out.2.2.2.1.2.1
  have hsz := HS.out.2.2.2.1.2.2
  have hB := HS.out.2.2.2.2
  go_wp2_with fail
  refine bodyPost_ret (v := .tuple #[.agg #[.slice none 0 0, .slice none 0 0, .slice none 0 0], .int .i64 (3)]) (by simp [results, Try.results35, go_sem, hr]) rfl ⟨rfl, (by repeat (first | exact Below.refl _ _ | assumption | apply Below.drew | apply below_drewN | (refine Below.alloc ?_ (by simp; try omega) _) | (refine Below.setCell ?_ (by simp; try omega) _)))⟩
set_option maxRecDepth 100000 in
set_option maxHeartbeats 2000000 in
theorem r_Book_1 (name also : ByteArray) (off aoff m1 k1 d1 a1 m2 k2 d2 a2 : Int) (nm : ByteArray) (fr to : Int) (hn : name.size ≤ maxLen) (hl : also.size ≤ maxLen) (hm : nm.size ≤ maxLen) (h : posE name off also aoff m1 k1 d1 a1 m2 k2 d2 a2 = 0) (h2 : isNameB nm.data.toList = true) (h3 : ¬ (1900 ≤ fr ∧ fr ≤ 2100 ∧ fr ≤ to ∧ to ≤ 2100)) (w : World) :
    Calls Try.prog 35 #[.agg #[.string name, .int .i64 off, .string also, .int .i64 aoff, .int .i64 m1, .int .i64 k1, .int .i64 d1, .int .i64 a1, .int .i64 m2, .int .i64 k2, .int .i64 d2, .int .i64 a2], .string nm, .int .i64 fr, .int .i64 to] w fun e w' => e = .returned (.tuple #[.agg #[.slice none 0 0, .slice none 0 0, .slice none 0 0], .int .i64 (1)]) ∧ Below w.heap.size w w' := by
  have HS := Lib.hid (R4.start w #[.string name, .int .i64 off, .string also, .int .i64 aoff, .int .i64 m1, .int .i64 k1, .int .i64 d1, .int .i64 a1, .int .i64 m2, .int .i64 k2, .int .i64 d2, .int .i64 a2] fr to 57 3 64)
  have hc : decide (fr < 1900 ∨ 2100 < fr) = true ∨ (decide (fr < 1900 ∨ 2100 < fr) = false ∧ decide (to < 1900 ∨ 2100 < to) = true) ∨ (decide (fr < 1900 ∨ 2100 < fr) = false ∧ decide (to < 1900 ∨ 2100 < to) = false ∧ to < fr) := by
    simp only [decide_eq_true_eq, decide_eq_false_iff_not]; omega
  clear h3
  rcases hc with c1 | ⟨c1, c2⟩ | ⟨c1, c2, c3⟩
  all_goals
    go_enter Try.func35, Try.ntmps35
    go_wp2_with fail
    refine (r_RiteCheck _ _ _ _ _ _ _ _ _ _ _ _ hn hl _).mono ?_
    rintro e w1 ⟨rfl, hb⟩
    replace HS := Lib.hid (HS.out.step hb)
    clear hb
    have hcs := HS.out.1.1
    go_wp2_with fail
    refine (r_IsName _ hm _).mono ?_
    rintro e w2 ⟨rfl, hb⟩
    replace HS := Lib.hid (HS.out.step hb)
    clear hb hcs
    have hcs := HS.out.1.1
    have hf1 := HS.out.2.1.1
    have hf2 := HS.out.2.2.1.1
    have hr := HS.out.2.2.2.1.1
    have hfr := HS.out.2.2.2.1.2.1
    have hsz := HS.out.2.2.2.1.2.2
    have hB := HS.out.2.2.2.2
    go_wp2_with (first | (go_at_call 50; refine (r_outside _ _ _ _).mono ?_; rintro e w' ⟨rfl, rfl⟩))
    refine bodyPost_ret (v := .tuple #[.agg #[.slice none 0 0, .slice none 0 0, .slice none 0 0], .int .i64 (1)]) (by simp [results, Try.results35, go_sem, hr]) rfl ⟨rfl, (by repeat (first | exact Below.refl _ _ | assumption | apply Below.drew | apply below_drewN | (refine Below.alloc ?_ (by simp; try omega) _) | (refine Below.setCell ?_ (by simp; try omega) _)))⟩
set_option maxRecDepth 100000 in
set_option maxHeartbeats 2000000 in
theorem r_Book_2 (name also : ByteArray) (off aoff m1 k1 d1 a1 m2 k2 d2 a2 : Int) (nm : ByteArray) (fr to : Int) (hn : name.size ≤ maxLen) (hl : also.size ≤ maxLen) (hm : nm.size ≤ maxLen) (h : posE name off also aoff m1 k1 d1 a1 m2 k2 d2 a2 = 0) (h2 : isNameB nm.data.toList = true) (h3 : 1900 ≤ fr ∧ fr ≤ 2100 ∧ fr ≤ to ∧ to ≤ 2100) (h4 : 1 ≤ also.size) (h5 : 12 < name.size + 1 + also.size) (s1 : name.size ≤ 8) (s2 : also.size ≤ 8) (w : World) :
    Calls Try.prog 35 #[.agg #[.string name, .int .i64 off, .string also, .int .i64 aoff, .int .i64 m1, .int .i64 k1, .int .i64 d1, .int .i64 a1, .int .i64 m2, .int .i64 k2, .int .i64 d2, .int .i64 a2], .string nm, .int .i64 fr, .int .i64 to] w fun e w' => e = .returned (.tuple #[.agg #[.slice none 0 0, .slice none 0 0, .slice none 0 0], .int .i64 (2)]) ∧ Below w.heap.size w w' := by
  have HS := Lib.hid (R4.start w #[.string name, .int .i64 off, .string also, .int .i64 aoff, .int .i64 m1, .int .i64 k1, .int .i64 d1, .int .i64 a1, .int .i64 m2, .int .i64 k2, .int .i64 d2, .int .i64 a2] fr to 57 3 64)
  have c1 : decide (fr < 1900 ∨ 2100 < fr) = false := by simp; omega
  have c2 : decide (to < 1900 ∨ 2100 < to) = false := by simp; omega
  have c3 : fr ≤ to := h3.2.2.1
  have q1 := ne_list h4
  have q2 := ne_isEmpty h4
  clear h3 h4
  go_enter Try.func35, Try.ntmps35
  go_wp2_with fail
  refine (r_RiteCheck _ _ _ _ _ _ _ _ _ _ _ _ hn hl _).mono ?_
  rintro e w1 ⟨rfl, hb⟩
  replace HS := Lib.hid (HS.out.step hb)
  clear hb
  have hcs := HS.out.1.1
  go_wp2_with fail
  refine (r_IsName _ hm _).mono ?_
  rintro e w2 ⟨rfl, hb⟩
  replace HS := Lib.hid (HS.out.step hb)
  clear hb hcs
  have hcs := HS.out.1.1
  have hf1 := HS.out.2.1.1
  have hf2 := HS.out.2.2.1.1
  have hr := HS.out.2.2.2.1.1
  have hfr := HS.out.2.2.2.1.2.1
  have hsz := HS.out.2.2.2.1.2.2
  have hB := HS.out.2.2.2.2
  go_wp2_with (first | (go_at_call 50; refine (r_outside _ _ _ _).mono ?_; rintro e w' ⟨rfl, rfl⟩))
  refine bodyPost_ret (v := .tuple #[.agg #[.slice none 0 0, .slice none 0 0, .slice none 0 0], .int .i64 (2)]) (by simp [results, Try.results35, go_sem, hr]) rfl ⟨rfl, (by repeat (first | exact Below.refl _ _ | assumption | apply Below.drew | apply below_drewN | (refine Below.alloc ?_ (by simp; try omega) _) | (refine Below.setCell ?_ (by simp; try omega) _)))⟩
end Go.Proofs.Ytgnodiegippkeaa
