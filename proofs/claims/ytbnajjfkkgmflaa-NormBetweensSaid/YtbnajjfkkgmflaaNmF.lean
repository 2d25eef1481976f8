/- Walk of norm.Norm. -/
import Derived.Test.YtbnajjfkkgmflaaNmE
import Derived.Test.YtbnajjfkkgmflaaTabA
namespace Go.Proofs.Ytbnajjfkkgmflaa
open Go.RowKit
set_option linter.unusedVariables false
/-- what Norm answers where there is an error -/
def NBad (E : Int) (w : World) (e : Ending) (w' : World) : Prop := e = .returned (.tuple #[tabV none none 0 0 [] 0 [], .int .i64 E]) ∧ Below w.heap.size w w'
/-- and where there is none -/
def NGood (s : NSt) (w : World) (e : Ending) (w' : World) : Prop :=
  ∃ A C capT capC, e = .returned (.tuple #[tabV A C capT capC s.ts 0 s.cs, .int .i64 0]) ∧ TabAt w' A C capT capC s.ts s.cs ∧ Above w.heap.size A ∧ Above w.heap.size C ∧ Below w.heap.size w w'
set_option maxRecDepth 100000 in
set_option maxHeartbeats 2000000 in
theorem n_Norm_bad (A C : Option Addr) (capT capC : Nat) (ts : List Ty) (first : Int) (cs : List Ch) (w : World) (H : TabAt w A C capT capC ts cs) (h0 : ¬ tabE ts first cs = 0) :
    Calls Try.prog 6 #[.agg #[.slice A ts.length capT, .int .i64 first, .slice C cs.length capC]] w (NBad (tabE ts first cs) w) := by
  obtain ⟨q1, q2, q4, q5, hb0⟩ := boxes2 w #[.slice A ts.length capT, .int .i64 first, .slice C cs.length capC] #[.slice none 0 0, .int .i64 0, .slice none 0 0] 25 25
  have X2 := Lib.hid (show Bx (w.heap.size + 1) _ _ from ⟨q2, q4, by rw [q5]; omega⟩)
  have HC := Lib.hid (t_Check A C capT capC ts first cs _ (H.below hb0))
  have HB := Lib.hid hb0
  have h2 : (tabE ts first cs != 0) = true := by rw [bne_iff_ne]; exact h0
  have h3 : (tabE ts first cs == 0) = false := by rw [beq_eq_false_iff_ne]; exact h0
  clear q1 q2 q4 q5 hb0 h0
  go_enter Try.func6, Try.ntmps6
  go_wp2_with fail
  refine (show Calls Try.prog _ _ _ _ from HC.out).mono ?_
  rintro e w1 ⟨rfl, hb⟩
  have x2 := X2.out.step hb
  have hr := x2.1
  have hf := x2.2.1
  have hz := x2.2.2
  have hB := HB.out.trans (hb.mono HB.out.size)
  clear hb X2 HC HB
  go_wp2_with fail
  obtain ⟨q0, q1, q2⟩ := cells3 (W := w1) (g := w.heap.size + 1) (x := .slice none 0 0) (y := .int .i64 0) (z := .slice none 0 0) (hr 0) (hr 1) (hr 2)
  exact bodyPost_ret (v := .tuple #[.agg #[.slice none 0 0, .int .i64 0, .slice none 0 0], .int .i64 (tabE ts first cs)]) (by simp [results, Try.results6, go_sem, q0, q1, q2]) rfl ⟨rfl, below3 hB (by omega)⟩
set_option maxRecDepth 100000 in
set_option maxHeartbeats 2000000 in
theorem n_Norm_ok (A C : Option Addr) (capT capC : Nat) (ts : List Ty) (first : Int) (cs : List Ch) (w : World) (H : TabAt w A C capT capC ts cs) (h0 : tabE ts first cs = 0) :
    Calls Try.prog 6 #[.agg #[.slice A ts.length capT, .int .i64 first, .slice C cs.length capC]] w (NGood (normSt ts first cs) w) := by
  obtain ⟨q1, q2, q4, q5, hb0⟩ := boxes2 w #[.slice A ts.length capT, .int .i64 first, .slice C cs.length capC] #[.slice none 0 0, .int .i64 0, .slice none 0 0] 25 25
  have X1 := Lib.hid q1
  have X2 := Lib.hid (show Bx (w.heap.size + 1) _ _ from ⟨q2, q4, by rw [q5]; omega⟩)
  have HC := Lib.hid (t_Check A C capT capC ts first cs _ (H.below hb0))
  have HB := Lib.hid hb0
  have X5 := Lib.hid q5
  have HK := Lib.hid (tabOk h0)
  clear q1 q2 q4 q5 hb0
  go_enter Try.func6, Try.ntmps6
  go_wp2_with fail
  refine (show Calls Try.prog _ _ _ _ from HC.out).mono ?_
  rintro e w1 ⟨rfl, hb⟩
  have x1 : ∀ i, w1.cell? ⟨w.heap.size, i, none⟩ = (#[.slice A ts.length capT, .int .i64 first, .slice C cs.length capC] : Array Value)[i]? := fun i => (hb.cell (by rw [X5.out]; exact Nat.lt_succ_of_lt (Nat.lt_succ_self _))).trans (X1.out i)
  have X2' := Lib.hid (X2.out.step hb)
  have hB := HB.out.trans (hb.mono HB.out.size)
  rw [h0]
  clear hb X2 HC HB X1 h0
  go_wp2_with fail
  refine (n_Of A C capT capC ts first cs _ (H.below hB) HK.out).mono ?_
  rintro e w2 ⟨A2, C2, cT2, cC2, rfl, HT, ha1, ha2, hb⟩
  have x2 := X2'.out.step hb
  have hr := x2.1
  have hf := x2.2.1
  have hz := x2.2.2
  have hB2 := hB.trans (hb.mono hB.size)
  clear x1
  have hlow : w.heap.size + 1 < w1.heap.size := X2'.out.2.2
  have HH := Lib.hid (((HT.far (i := 0) ha1 ha2 hlow (.slice A2 (normSt ts first cs).ts.length cT2)).far (i := 1) ha1 ha2 hlow (.int .i64 0)).far (i := 2) ha1 ha2 hlow (.slice C2 (normSt ts first cs).cs.length cC2))
  have hl1 := Nat.le_trans (Nat.le_of_lt (Nat.lt_of_succ_lt hlow)) (Nat.le_refl _)
  have HA1 := Lib.hid (ha1.mono hl1)
  have HA2 := Lib.hid (ha2.mono hl1)
  clear ha1 ha2 hb HT
  go_wp2_with fail
  obtain ⟨q0, q1, q2⟩ := cells3 (W := w2) (g := w.heap.size + 1) (x := .slice A2 (normSt ts first cs).ts.length cT2) (y := .int .i64 0) (z := .slice C2 (normSt ts first cs).cs.length cC2) (hr 0) (hr 1) (hr 2)
  exact bodyPost_ret (v := .tuple #[.agg #[.slice A2 (normSt ts first cs).ts.length cT2, .int .i64 0, .slice C2 (normSt ts first cs).cs.length cC2], .int .i64 0]) (by simp [results, Try.results6, go_sem, q0, q1, q2]) rfl ⟨A2, C2, cT2, cC2, rfl, HH.out, HA1.out, HA2.out, below3 hB2 (by omega)⟩
end Go.Proofs.Ytbnajjfkkgmflaa
