/- Walk of rite.Book, no summer. -/
import Derived.Test.YtgnodiegippkeaaRbA
import Derived.Test.YtgnodiegippkeaaRbD
namespace Go.Proofs.Ytgnodiegippkeaa
open Go.RowKit
set_option linter.unusedVariables false
set_option maxRecDepth 100000 in
set_option maxHeartbeats 2000000 in
theorem i_Book_n (name also : ByteArray) (off aoff m1 k1 d1 a1 m2 k2 d2 a2 : Int) (nm : ByteArray) (fr to : Int) (hn : name.size ≤ maxLen) (hl : also.size ≤ maxLen) (hm : nm.size ≤ maxLen) (h : posE name off also aoff m1 k1 d1 a1 m2 k2 d2 a2 = 0) (h2 : isNameB nm.data.toList = true) (h3 : 1900 ≤ fr ∧ fr ≤ 2100 ∧ fr ≤ to ∧ to ≤ 2100) (h4 : also.size = 0) (s1 : name.size ≤ 8) (w : World) :
    Calls Try.prog 34 #[.agg #[.string name, .int .i64 off, .string also, .int .i64 aoff, .int .i64 m1, .int .i64 k1, .int .i64 d1, .int .i64 a1, .int .i64 m2, .int .i64 k2, .int .i64 d2, .int .i64 a2], .string nm, .int .i64 fr, .int .i64 to] w fun e w' => ∃ A ca g cz E ce, e = .returned (.tuple #[.agg #[.slice A (([] : List RuT)).length ca, .slice (some ⟨g, 0, none⟩) 1 cz, .slice none 0 0], .int .i64 0]) ∧ Below w.heap.size w w' ∧ BkOk w' (([] : List RuT)) nm (⟨off, ⟨#[]⟩, 0, name, 0⟩) A ca g cz E ce := by
  have HS := Lib.hid (R2.start w #[.string name, .int .i64 off, .string also, .int .i64 aoff, .int .i64 m1, .int .i64 k1, .int .i64 d1, .int .i64 a1, .int .i64 m2, .int .i64 k2, .int .i64 d2, .int .i64 a2] 57 64)
  have c1 : decide (1900 ≤ fr ∧ fr ≤ 2100) = true := by simp; omega
  have c2 : decide (fr ≤ to ∧ to ≤ 2100) = true := by simp; omega
  have q1 := em_list h4
  have q2 := em_isEmpty h4
  clear h3 h4
  go_enter Try.func34, Try.ntmps34
  go_wp2_with fail
  refine (i_Check _ _ _ _ _ _ _ _ _ _ _ _ hn hl _).mono ?_
  rintro e w1 ⟨rfl, hb⟩
  replace HS := Lib.hid (HS.out.step hb)
  clear hb
  have hcs := HS.out.1.1
  go_wp2_with fail
  refine (u_IsName _ hm _).mono ?_
  rintro e w2 ⟨rfl, rfl⟩
  have hz := HS.out.1.2.2
  have hr := HS.out.2.1.1
  have hfr := HS.out.2.1.2.1
  have hsz := HS.out.2.1.2.2
  have hB := HS.out.2.2
  have fz3 := (far3' HS.out.2.1).2
  have fc3 := (far3' HS.out.2.1).1
  go_wp2_with (first | (go_at_call 63; refine (i_within _ _ _ _).mono ?_; rintro e w' ⟨rfl, rfl⟩))
  have hx := (HS.out.2.1).set3 (x := .slice none 0 0) (y := .slice (some ⟨w1.heap.size + 1 + 1, 0, none⟩) 1 1) (z := .slice none 0 0)
  have hbw := below_set3 (b3 := w.heap.size + 1) (x := .slice none 0 0) (y := .slice (some ⟨w1.heap.size + 1 + 1, 0, none⟩) 1 1) (z := .slice none 0 0) hB (by omega)
  have hs3 : (((w1.setCell ⟨w.heap.size + 1, 0, none⟩ (.slice none 0 0)).setCell ⟨w.heap.size + 1, 1, none⟩ (.slice (some ⟨w1.heap.size + 1 + 1, 0, none⟩) 1 1)).setCell ⟨w.heap.size + 1, 2, none⟩ (.slice none 0 0)).heap.size = w1.heap.size := by simp
  clear HS hcs hr hfr fz3 fc3
  revert hx hbw hs3
  generalize ((w1.setCell ⟨w.heap.size + 1, 0, none⟩ (.slice none 0 0)).setCell ⟨w.heap.size + 1, 1, none⟩ (.slice (some ⟨w1.heap.size + 1 + 1, 0, none⟩) 1 1)).setCell ⟨w.heap.size + 1, 2, none⟩ (.slice none 0 0) = U
  intro hx hbw hs3
  have hx3 := (far3' hx).1
  have bk := bk_end (U := U.alloc (.cells #[.int .i64 off, .string ⟨#[]⟩, .int .i64 0, .string name, .int .i64 0] 103)) (rs := []) (nm := nm) (er := ⟨off, ⟨#[]⟩, 0, name, 0⟩) (A := none) (ca := 0) (t1 := 103) (t2 := 111) (SlAt.none_ _ _ _ _) (Nat.le_refl _) (by unfold maxLen; omega)
  rw [size_alloc, hs3] at bk
  have hbb := ((hbw.alloc (by omega) (.cells #[.int .i64 off, .string ⟨#[]⟩, .int .i64 0, .string name, .int .i64 0] 103)).alloc (by rw [size_alloc]; omega) (.cells (erC ⟨off, ⟨#[]⟩, 0, name, 0⟩).toArray 103)).alloc (by rw [size_alloc, size_alloc]; omega) (.cells #[.string nm, .slice (some ⟨w1.heap.size + 1, 0, none⟩) 1 1] 111)
  refine bodyPost_ret (v := .tuple #[.agg #[.slice none 0 0, .slice (some ⟨w1.heap.size + 1 + 1, 0, none⟩) 1 1, .slice none 0 0], .int .i64 0]) (by simp [results, Try.results34, go_sem, hx3]) rfl ⟨none, 0, _, 1, _, 1, rfl, hbb, bk⟩
end Go.Proofs.Ytgnodiegippkeaa
