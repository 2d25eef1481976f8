/- Walks of both Packs where the table may not be; of pack.Parse at nil. -/
import Derived.Test.YtcoapllgpjjbcaaPkB
import Derived.Test.YtcoapllgpjjbcaaTabR
import Derived.Test.YtcoapllgpjjbcaaEqY
namespace Go.Proofs.Ytcoapllgpjjbcaa
open Go.RowKit
set_option linter.unusedVariables false
attribute [local go_sem ↓] Go.wp_at_zero Go.wp_at_succ
theorem by_flat (O : List Int) : (O.map byCells).flatten = O.map byC := by
  induction O with
  | nil => rfl
  | cons a l ih => rw [List.map_cons, List.flatten_cons, ih]; rfl
theorem own_inB {W : World} {base : Nat} {v : Value} {O : List Int} (h : W.ownsRow base 5 1 v O.length (O.map byC)) :
    ∃ A cap, v = .slice A O.length cap ∧ O.length ≤ cap ∧ cap ≤ maxLen ∧ SlAt W W.heap.size 1 A (O.map byCells) := by
  have h' : W.ownsRow base 5 1 v (O.map byCells).length (O.map byCells).flatten := by rw [by_flat, List.length_map]; exact h
  obtain ⟨A, cap, a, b, c, d⟩ := own_at h' (by intro xs hx; obtain ⟨t, _, rfl⟩ := List.mem_map.1 hx; rfl)
  rw [List.length_map] at a b
  exact ⟨A, cap, a, b, c, d⟩
set_option maxRecDepth 100000 in
set_option maxHeartbeats 2000000 in
theorem p_Pack_bad (A C : Option Addr) (capT capC : Nat) (ts : List Ty) (first : Int) (cs : List Ch) (w : World) (H : TabAt w A C capT capC ts cs) (h0 : ¬ tabE ts first cs = 0) :
    Calls Try.prog 6 #[.agg #[.slice A ts.length capT, .int .i64 first, .slice C cs.length capC]] w
      fun e w' => e = .returned (.tuple #[.slice none 0 0, .int .i64 (tabE ts first cs)]) ∧ Below w.heap.size w w' := by
  have hbx : Below w.heap.size w (w.alloc (.cells #[.slice A ts.length capT, .int .i64 first, .slice C cs.length capC] 25)) := (by repeat (first | exact Below.refl _ _ | assumption | apply Below.drew | apply below_drewN | (refine Below.alloc ?_ (by simp; try omega) _) | (refine Below.setCell ?_ (by simp; try omega) _)))
  have HC := Lib.hid (t_Check A C capT capC ts first cs _ (H.below hbx))
  have h2 : (tabE ts first cs != 0) = true := by rw [bne_iff_ne]; exact h0
  have h3 : (tabE ts first cs == 0) = false := by rw [beq_eq_false_iff_ne]; exact h0
  clear h0
  go_enter Try.func6, Try.ntmps6
  go_wp2_with fail
  refine HC.out.mono ?_
  rintro e w1 ⟨rfl, hb⟩
  have hb1 := hbx.trans (hb.mono hbx.size)
  clear hb HC
  go_wp2_with fail
  go_ret2
  exact ⟨rfl, hb1⟩
set_option maxRecDepth 100000 in
set_option maxHeartbeats 2000000 in
theorem r_Pack_bad (A C : Option Addr) (capT capC : Nat) (ts : List Ty) (first : Int) (cs : List Ch) (w : World) (H : TabAt w A C capT capC ts cs) (h0 : ¬ tabE ts first cs = 0) :
    Calls Try.prog 7 #[.agg #[.slice A ts.length capT, .int .i64 first, .slice C cs.length capC]] w
      fun e w' => e = .returned (.tuple #[.slice none 0 0, .int .i64 (tabE ts first cs)]) ∧ Below w.heap.size w w' := by
  have hbx : Below w.heap.size w (w.alloc (.cells #[.slice A ts.length capT, .int .i64 first, .slice C cs.length capC] 25)) := (by repeat (first | exact Below.refl _ _ | assumption | apply Below.drew | apply below_drewN | (refine Below.alloc ?_ (by simp; try omega) _) | (refine Below.setCell ?_ (by simp; try omega) _)))
  have HC := Lib.hid (r_TableCheck A C capT capC ts first cs _ (H.below hbx))
  have h2 : (tabE ts first cs != 0) = true := by rw [bne_iff_ne]; exact h0
  have h3 : (tabE ts first cs == 0) = false := by rw [beq_eq_false_iff_ne]; exact h0
  clear h0
  go_enter Try.func7, Try.ntmps7
  go_wp2_with fail
  refine HC.out.mono ?_
  rintro e w1 ⟨rfl, hb⟩
  have hb1 := hbx.trans (hb.mono hbx.size)
  clear hb HC
  go_wp2_with fail
  go_ret2
  exact ⟨rfl, hb1⟩
set_option maxRecDepth 100000 in
set_option maxHeartbeats 2000000 in
theorem p_Parse_nil (w : World) :
    Calls Try.prog 8 #[.slice none 0 0] w
      fun e w' => e = .returned (.tuple #[.agg #[.slice none 0 0, .int .i64 0, .slice none 0 0], .int .i64 4]) ∧ Below w.heap.size w w' := by
  go_enter Try.func8, Try.ntmps8
  go_wp2_with fail
  have hb : Below w.heap.size w (w.alloc (.cells #[.slice none 0 0, .int .i64 0, .slice none 0 0] 25)) := (by repeat (first | exact Below.refl _ _ | assumption | apply Below.drew | apply below_drewN | (refine Below.alloc ?_ (by simp; try omega) _) | (refine Below.setCell ?_ (by simp; try omega) _)))
  exact bodyPost_ret (v := .tuple #[.agg #[.slice none 0 0, .int .i64 0, .slice none 0 0], .int .i64 4]) (by simp [results, Try.results8, go_sem]) rfl ⟨rfl, hb⟩
end Go.Proofs.Ytcoapllgpjjbcaa
