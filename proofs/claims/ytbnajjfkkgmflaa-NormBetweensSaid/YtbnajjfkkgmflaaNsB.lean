/- Walks of the checks of two tables. -/
import Derived.Test.YtbnajjfkkgmflaaNsA
namespace Go.Proofs.Ytbnajjfkkgmflaa
open Go.RowKit
set_option linter.unusedVariables false
attribute [local go_sem ↓] Go.wp_at_zero Go.wp_at_succ
/-- the error of two tables -/
def bothE (ts1 : List Ty) (f1 : Int) (cs1 : List Ch) (ts2 : List Ty) (f2 : Int) (cs2 : List Ch) : Int := if tabE ts1 f1 cs1 = 0 then tabE ts2 f2 cs2 else tabE ts1 f1 cs1
set_option maxRecDepth 100000 in
set_option maxHeartbeats 2000000 in
theorem n_check (A C A2 C2 : Option Addr) (capT capC capT2 capC2 : Nat) (ts : List Ty) (first : Int) (cs : List Ch) (ts2 : List Ty) (first2 : Int) (cs2 : List Ch) (w : World) (H : TabAt w A C capT capC ts cs) (H2 : TabAt w A2 C2 capT2 capC2 ts2 cs2) :
    Calls Try.prog 9 #[.agg #[.slice A ts.length capT, .int .i64 first, .slice C cs.length capC], .agg #[.slice A2 ts2.length capT2, .int .i64 first2, .slice C2 cs2.length capC2]] w fun e w' => e = .returned (.int .i64 (bothE ts first cs ts2 first2 cs2)) ∧ Below w.heap.size w w' := by
  obtain ⟨q1, q2, q4, q5, hb0⟩ := boxes2 w #[.slice A ts.length capT, .int .i64 first, .slice C cs.length capC] #[.slice A2 ts2.length capT2, .int .i64 first2, .slice C2 cs2.length capC2] 25 25
  have X2 := Lib.hid (show Bx (w.heap.size + 1) _ _ from ⟨q2, q4, by rw [q5]; omega⟩)
  have HC := Lib.hid (t_Check A C capT capC ts first cs _ (H.below hb0))
  clear q4 q5
  by_cases h0 : tabE ts first cs = 0
  · have HE := Lib.hid (show bothE ts first cs ts2 first2 cs2 = tabE ts2 first2 cs2 by rw [bothE, if_pos h0])
    go_enter Try.func9, Try.ntmps9
    go_wp2_with fail
    refine HC.out.mono ?_
    rintro e w1 ⟨rfl, hb⟩
    have x2 := X2.out.step hb
    have hcs := x2.1
    have hb1 := hb0.trans (hb.mono hb0.size)
    clear hb HC X2 q1 q2
    go_wp2_with fail
    refine (t_Check A2 C2 capT2 capC2 ts2 first2 cs2 _ (H2.below hb1)).mono ?_
    rintro e w2 ⟨rfl, hb⟩
    go_wp2_with fail
    go_ret
    exact ⟨ret_int HE.out.symm, hb1.trans (hb.mono hb1.size)⟩
  · have HE := Lib.hid (show bothE ts first cs ts2 first2 cs2 = tabE ts first cs by rw [bothE, if_neg h0])
    have h2 : (tabE ts first cs != 0) = true := by rw [bne_iff_ne]; exact h0
    have h3 : (tabE ts first cs == 0) = false := by rw [beq_eq_false_iff_ne]; exact h0
    clear h0
    go_enter Try.func9, Try.ntmps9
    go_wp2_with fail
    refine HC.out.mono ?_
    rintro e w1 ⟨rfl, hb⟩
    have hb1 := hb0.trans (hb.mono hb0.size)
    clear hb HC X2 q1 q2
    go_wp2_with fail
    go_ret
    exact ⟨ret_int HE.out.symm, hb1⟩
set_option maxRecDepth 100000 in
set_option maxHeartbeats 2000000 in
theorem l_both (A C A2 C2 : Option Addr) (capT capC capT2 capC2 : Nat) (ts : List Ty) (first : Int) (cs : List Ch) (ts2 : List Ty) (first2 : Int) (cs2 : List Ch) (w : World) (H : TabAt w A C capT capC ts cs) (H2 : TabAt w A2 C2 capT2 capC2 ts2 cs2) :
    Calls Try.prog 5 #[.agg #[.slice A ts.length capT, .int .i64 first, .slice C cs.length capC], .agg #[.slice A2 ts2.length capT2, .int .i64 first2, .slice C2 cs2.length capC2]] w fun e w' => e = .returned (.int .i64 (bothE ts first cs ts2 first2 cs2)) ∧ Below w.heap.size w w' := by
  obtain ⟨q1, q2, q4, q5, hb0⟩ := boxes2 w #[.slice A ts.length capT, .int .i64 first, .slice C cs.length capC] #[.slice A2 ts2.length capT2, .int .i64 first2, .slice C2 cs2.length capC2] 25 25
  have X2 := Lib.hid (show Bx (w.heap.size + 1) _ _ from ⟨q2, q4, by rw [q5]; omega⟩)
  have HC := Lib.hid (r_TableCheck A C capT capC ts first cs _ (H.below hb0))
  clear q4 q5
  by_cases h0 : tabE ts first cs = 0
  · have HE := Lib.hid (show bothE ts first cs ts2 first2 cs2 = tabE ts2 first2 cs2 by rw [bothE, if_pos h0])
    go_enter Try.func5, Try.ntmps5
    go_wp2_with fail
    refine HC.out.mono ?_
    rintro e w1 ⟨rfl, hb⟩
    have x2 := X2.out.step hb
    have hcs := x2.1
    have hb1 := hb0.trans (hb.mono hb0.size)
    clear hb HC X2 q1 q2
    go_wp2_with fail
    refine (r_TableCheck A2 C2 capT2 capC2 ts2 first2 cs2 _ (H2.below hb1)).mono ?_
    rintro e w2 ⟨rfl, hb⟩
    go_wp2_with fail
    go_ret
    exact ⟨ret_int HE.out.symm, hb1.trans (hb.mono hb1.size)⟩
  · have HE := Lib.hid (show bothE ts first cs ts2 first2 cs2 = tabE ts first cs by rw [bothE, if_neg h0])
    have h2 : (tabE ts first cs != 0) = true := by rw [bne_iff_ne]; exact h0
    have h3 : (tabE ts first cs == 0) = false := by rw [beq_eq_false_iff_ne]; exact h0
    clear h0
    go_enter Try.func5, Try.ntmps5
    go_wp2_with fail
    refine HC.out.mono ?_
    rintro e w1 ⟨rfl, hb⟩
    have hb1 := hb0.trans (hb.mono hb0.size)
    clear hb HC X2 q1 q2
    go_wp2_with fail
    go_ret
    exact ⟨ret_int HE.out.symm, hb1⟩
end Go.Proofs.Ytbnajjfkkgmflaa
