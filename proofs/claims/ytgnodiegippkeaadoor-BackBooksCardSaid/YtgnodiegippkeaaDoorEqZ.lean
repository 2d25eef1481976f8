/- Walk of the reference's BookEq at two empty books. -/
import Derived.Test.YtgnodiegippkeaaDoorEqK
namespace Go.Proofs.YtgnodiegippkeaaDoor
open Go.RowKit
set_option linter.unusedVariables false
attribute [local go_sem ↓] Go.wp_at_zero Go.wp_at_succ
set_option maxRecDepth 100000 in
set_option maxHeartbeats 2000000 in
theorem r_BookEq0 (w : World) :
    Calls Tryd.prog 11 #[.agg #[.slice none 0 0, .slice none 0 0, .slice none 0 0], .agg #[.slice none 0 0, .slice none 0 0, .slice none 0 0]] w fun e w' => e = .returned (.bool true) ∧ Below w.heap.size w w' := by
  obtain ⟨q1, q2, q4, q5, hb0⟩ := boxes2 w #[.slice none 0 0, .slice none 0 0, .slice none 0 0] #[.slice none 0 0, .slice none 0 0, .slice none 0 0] 37 37
  have HR := Lib.hid (r_EqRule none none 0 0 [] ((w.alloc (.cells #[.slice none 0 0, .slice none 0 0, .slice none 0 0] 37)).alloc (.cells #[.slice none 0 0, .slice none 0 0, .slice none 0 0] 37)) (SlAt.none_ _ _ _ _) (SlAt.none_ _ _ _ _) (by simp) (by simp) (by unfold maxLen; omega) (by unfold maxLen; omega))
  have HB := Lib.hid hb0
  have X1 := Lib.hid q1
  have X2 := Lib.hid q2
  have X5 := Lib.hid q5
  clear q1 q2 q4 q5 hb0
  go_enter Tryd.func11, Tryd.ntmps11
  go_wp2_with fail
  refine (show Calls Tryd.prog _ _ _ _ from HR.out).mono ?_
  rintro e w1 ⟨rfl, hb⟩
  have hs1 : ∀ i, w1.cell? ⟨w.heap.size, i, none⟩ = (#[.slice none 0 0, .slice none 0 0, .slice none 0 0] : Array Value)[i]? := fun i => (hb.cell (by rw [X5.out]; exact Nat.lt_succ_of_lt (Nat.lt_succ_self _))).trans (X1.out i)
  have hs2 : ∀ i, w1.cell? ⟨w.heap.size + 1, i, none⟩ = (#[.slice none 0 0, .slice none 0 0, .slice none 0 0] : Array Value)[i]? := fun i => (hb.cell (by rw [X5.out]; exact Nat.lt_succ_self _)).trans (X2.out i)
  have hB := HB.out.trans (hb.mono HB.out.size)
  clear hb HR
  go_wp2_with fail
  refine (r_EqLink0 _).mono ?_
  rintro e w2 ⟨rfl, rfl⟩
  go_wp2_with fail
  go_loop [32] (fun i => i = .int .i64 0) (fun _ => 0)
  case atStart => exact rfl
  case round =>
    obtain rfl := hrel
    go_wp2_with fail
    go_ret
    exact ⟨rfl, hB⟩
end Go.Proofs.YtgnodiegippkeaaDoor
