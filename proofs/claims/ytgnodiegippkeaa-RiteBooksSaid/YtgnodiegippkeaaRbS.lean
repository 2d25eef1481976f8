/- Walk of the reference's RiteBook, no summer. -/
import Derived.Test.YtgnodiegippkeaaRbR
import Derived.Test.YtgnodiegippkeaaRbC
namespace Go.Proofs.Ytgnodiegippkeaa
open Go.RowKit
set_option linter.unusedVariables false
set_option maxRecDepth 100000 in
set_option maxHeartbeats 2000000 in
theorem r_Book_n (name also : ByteArray) (off aoff m1 k1 d1 a1 m2 k2 d2 a2 : Int) (nm : ByteArray) (fr to : Int) (hn : name.size ≤ maxLen) (hl : also.size ≤ maxLen) (hm : nm.size ≤ maxLen) (h : posE name off also aoff m1 k1 d1 a1 m2 k2 d2 a2 = 0) (h2 : isNameB nm.data.toList = true) (h3 : 1900 ≤ fr ∧ fr ≤ 2100 ∧ fr ≤ to ∧ to ≤ 2100) (h4 : also.size = 0) (s1 : name.size ≤ 8) (w : World) :
    Calls Try.prog 35 #[.agg #[.string name, .int .i64 off, .string also, .int .i64 aoff, .int .i64 m1, .int .i64 k1, .int .i64 d1, .int .i64 a1, .int .i64 m2, .int .i64 k2, .int .i64 d2, .int .i64 a2], .string nm, .int .i64 fr, .int .i64 to] w fun e w' => ∃ A ca g cz E ce, e = .returned (.tuple #[.agg #[.slice A (([] : List RuT)).length ca, .slice (some ⟨g, 0, none⟩) 1 cz, .slice none 0 0], .int .i64 0]) ∧ Below w.heap.size w w' ∧ BkOk w' (([] : List RuT)) nm (⟨off, ⟨#[]⟩, 0, name, 0⟩) A ca g cz E ce := by
  have HS := Lib.hid (R4.start w #[.string name, .int .i64 off, .string also, .int .i64 aoff, .int .i64 m1, .int .i64 k1, .int .i64 d1, .int .i64 a1, .int .i64 m2, .int .i64 k2, .int .i64 d2, .int .i64 a2] fr to 57 3 64)
  have c1 : decide (fr < 1900 ∨ 2100 < fr) = false := by simp; omega
  have c2 : decide (to < 1900 ∨ 2100 < to) = false := by simp; omega
  have c3 : fr ≤ to := h3.2.2.1
  have q1 := em_list h4
  have q2 := em_isEmpty h4
  clear h3 h4
  go_enter Try.func35, Try.ntmps35
  go_wp2_with fail
  refine (r_RiteCheck _ _ _ _ _ _ _ _ _ _ _ _ hn hl _).mono ?_
  rintro e w1 ⟨rfl, hb⟩
  replace HS := Lib.hid (HS.out.step hb)
  clear hb
  have hcs := HS.out.1.1
  go_wp2_with fail
  refine (r_IsName _ hm _).mono ?_
  rintro e w2 ⟨rfl, hb⟩
  replace HS := Lib.hid (HS.out.step hb)
  clear hb hcs
  have hcs := HS.out.1.1
  have hf1 := HS.out.2.1.1
  have hf2 := HS.out.2.2.1.1
  have hr := HS.out.2.2.2.1.1
  have hfr := HS.out.2.2.2.1.2.1
  have hsz := HS.out.2.2.2.1.2.2
  have hB := HS.out.2.2.2.2
  have hz := HS.out.1.2.2
  have fz2 := (far2 HS.out.2.2.2.1).2
  have fc2 := (far2 HS.out.2.2.2.1).1
  have fz1 := (far1 HS.out.2.2.2.1).2
  have fc1 := (far1 HS.out.2.2.2.1).1
  go_wp2_with (first | (go_at_call 50; refine (r_outside _ _ _ _).mono ?_; rintro e w' ⟨rfl, rfl⟩))
  obtain ⟨g1, g2, _, g5, gb⟩ := boxes2 w2 #[.int .i64 off, .string ⟨#[]⟩, .int .i64 0, .string name, .int .i64 0] #[.string nm, .slice (some ⟨w2.heap.size, 0, none⟩) 1 1] 103 111
  have q := set3' (W := ((w2.alloc (.cells #[.int .i64 off, .string ⟨#[]⟩, .int .i64 0, .string name, .int .i64 0] 103)).alloc (.cells #[.string nm, .slice (some ⟨w2.heap.size, 0, none⟩) 1 1] 111))) (g := w.heap.size + 1 + 1 + 1) (x := .slice none 0 0) (y := .slice (some ⟨w2.heap.size + 1, 0, none⟩) 1 1) (z := .slice none 0 0) (fc2 _ _ 0) (fc2 _ _ 1) (fc2 _ _ 2)
  have hbw := below_set3 (b3 := w.heap.size + 1 + 1 + 1) (x := .slice none 0 0) (y := .slice (some ⟨w2.heap.size + 1, 0, none⟩) 1 1) (z := .slice none 0 0) (hB.trans (gb.mono hB.size)) (by omega)
  have bk : BkOk (((((w2.alloc (.cells #[.int .i64 off, .string ⟨#[]⟩, .int .i64 0, .string name, .int .i64 0] 103)).alloc (.cells #[.string nm, .slice (some ⟨w2.heap.size, 0, none⟩) 1 1] 111)).setCell ⟨w.heap.size + 1 + 1 + 1, 0, none⟩ (.slice none 0 0)).setCell ⟨w.heap.size + 1 + 1 + 1, 1, none⟩ (.slice (some ⟨w2.heap.size + 1, 0, none⟩) 1 1)).setCell ⟨w.heap.size + 1 + 1 + 1, 2, none⟩ (.slice none 0 0)) ([] : List RuT) nm ⟨off, ⟨#[]⟩, 0, name, 0⟩ none 0 (w2.heap.size + 1) 1 (some ⟨w2.heap.size, 0, none⟩) 1 :=
    bk_set (SlAt.none_ _ _ _ _) (fun b o e => by cases e) (Nat.le_refl _) (by unfold maxLen; omega) (by rw [g5]; omega) (by omega) (g2 0) (g2 1) (by rw [g5]; omega) (by omega) (fun j hj => (g1 j).trans (by simp [erC])) (by omega) (by unfold maxLen; omega) (by omega) (by unfold maxLen; omega)
  revert q hbw bk
  generalize ((((w2.alloc (.cells #[.int .i64 off, .string ⟨#[]⟩, .int .i64 0, .string name, .int .i64 0] 103)).alloc (.cells #[.string nm, .slice (some ⟨w2.heap.size, 0, none⟩) 1 1] 111)).setCell ⟨w.heap.size + 1 + 1 + 1, 0, none⟩ (.slice none 0 0)).setCell ⟨w.heap.size + 1 + 1 + 1, 1, none⟩ (.slice (some ⟨w2.heap.size + 1, 0, none⟩) 1 1)).setCell ⟨w.heap.size + 1 + 1 + 1, 2, none⟩ (.slice none 0 0) = W'
  rintro ⟨q0, q1', q2'⟩ hbw bk
  refine bodyPost_ret (v := .tuple #[.agg #[.slice none 0 0, .slice (some ⟨w2.heap.size + 1, 0, none⟩) 1 1, .slice none 0 0], .int .i64 0]) (by simp [results, Try.results35, go_sem, q0, q1', q2']) rfl ⟨none, 0, _, 1, _, 1, rfl, hbw, bk⟩
end Go.Proofs.Ytgnodiegippkeaa
