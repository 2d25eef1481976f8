/- Walk of back.Book: a table that may not be. -/
import Derived.Test.YtgnodiegippkeaaDoorTabA
import Derived.Test.YtgnodiegippkeaaDoorBlk
namespace Go.Proofs.YtgnodiegippkeaaDoor
open Go.RowKit
set_option linter.unusedVariables false
set_option maxRecDepth 100000 in
set_option maxHeartbeats 2000000 in
theorem b_Book_bad (A C : Option Addr) (capT capC : Nat) (ts : List Ty) (first : Int) (cs : List Ch) (nm : ByteArray) (w : World) (H : TabAt w A C capT capC ts cs) (h0 : ¬ tabE ts first cs = 0) :
    Calls Tryd.prog 9 #[.agg #[.slice A ts.length capT, .int .i64 first, .slice C cs.length capC], .string nm] w fun e w' => e = .returned (.tuple #[.agg #[.slice none 0 0, .slice none 0 0, .slice none 0 0], .int .i64 (tabE ts first cs)]) ∧ Below w.heap.size w w' := by
  obtain ⟨q1, q2, q4, q5, hb0⟩ := boxes2 w #[.slice A ts.length capT, .int .i64 first, .slice C cs.length capC] #[.slice none 0 0, .slice none 0 0, .slice none 0 0] 32 37
  have X2 := Lib.hid (show Bx (w.heap.size + 1) _ _ from ⟨q2, q4, by rw [q5]; omega⟩)
  have HC := Lib.hid (t_Check A C capT capC ts first cs _ (H.below hb0))
  have HB := Lib.hid hb0
  have h2 : (tabE ts first cs != 0) = true := by rw [bne_iff_ne]; exact h0
  have h3 : (tabE ts first cs == 0) = false := by rw [beq_eq_false_iff_ne]; exact h0
  clear q1 q2 q4 q5 hb0 h0
  go_enter Tryd.func9, Tryd.ntmps9
  go_wp2_with fail
  refine (show Calls Tryd.prog _ _ _ _ from HC.out).mono ?_
  rintro e w1 ⟨rfl, hb⟩
  have x2 := X2.out.step hb
  have hr := x2.1
  have hf := x2.2.1
  have hz := x2.2.2
  have hB := HB.out.trans (hb.mono HB.out.size)
  clear hb X2 HC HB
  go_wp2_with fail
  obtain ⟨q0, q1, q2⟩ := cells3 (W := w1) (g := w.heap.size + 1) (x := .slice none 0 0) (y := .slice none 0 0) (z := .slice none 0 0) (hr 0) (hr 1) (hr 2)
  exact bodyPost_ret (v := .tuple #[.agg #[.slice none 0 0, .slice none 0 0, .slice none 0 0], .int .i64 (tabE ts first cs)]) (by simp [results, Tryd.results9, go_sem, q0, q1, q2]) rfl ⟨rfl, below3 hB (by omega)⟩
theorem b_Book_zero (nm : ByteArray) (w : World) :
    Calls Tryd.prog 9 #[.agg #[.slice none 0 0, .int .i64 0, .slice none 0 0], .string nm] w fun e w' => e = .returned (.tuple #[.agg #[.slice none 0 0, .slice none 0 0, .slice none 0 0], .int .i64 5]) ∧ Below w.heap.size w w' :=
  b_Book_bad none none 0 0 [] 0 [] nm w (TabAt.zero w) (by decide)
end Go.Proofs.YtgnodiegippkeaaDoor
