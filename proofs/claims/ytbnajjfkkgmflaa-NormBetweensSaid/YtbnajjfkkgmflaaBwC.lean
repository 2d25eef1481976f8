/- Walks of slices.Grow and slices.Concat at changes. -/
import Derived.Test.YtbnajjfkkgmflaaNsE
import Derived.Lib.AppendZeros
import Derived.Deep.Cut
namespace Go.Proofs.Ytbnajjfkkgmflaa
open Go.RowKit
set_option linter.unusedVariables false
set_option linter.unusedSimpArgs false
attribute [local go_sem ↓] Go.wp_at_zero Go.wp_at_succ
set_option maxRecDepth 100000 in
set_option maxHeartbeats 1000000 in
theorem s_Grow0 (w : World) :
    Calls Try.prog 20 #[.slice none 0 0, .int .i64 0] w fun e w' => e = .returned (.slice none 0 0) ∧ Below w.heap.size w w' := by
  go_enter Try.func20, Try.ntmps20
  go_wp2_with fail
  go_ret
  exact ⟨rfl, Below.refl _ _⟩
set_option maxRecDepth 100000 in
set_option maxHeartbeats 1000000 in
theorem s_GrowN (n : Nat) (h0 : 0 < n) (hn : n ≤ 2000) (w : World) :
    Calls Try.prog 20 #[.slice none 0 0, .int .i64 n] w fun e w' => ∃ v, e = .returned v ∧ w'.ownsRow w.heap.size 42 2 v 0 [] ∧ Below w.heap.size w w' := by
  obtain ⟨i1, hi1, hy0, hy1, hy2⟩ := info_parts info_Change
  have hn1 : (0 : Int) < (n : Int) := by omega
  have hn2 : ¬ ((n : Int) < 0) := by omega
  have hn3 : IntKind.i64.wrap ((n : Int) - 0) = (n : Int) := by rw [Int.sub_zero]; exact IntWalk.i64_in _ (by omega)
  have hn4 : IntKind.i64.wrap (n : Int) = (n : Int) := IntWalk.i64_in _ (by omega)
  have hr := Lib.run_append_nil_zeros (P := Try.prog) w 23 3 23 42 i1 _ .i64 .i64 Try.underlying23 Try.underlying3 hi1 hy0 n h0 (by omega) (by omega) (by rw [hy2]; omega)
  go_enter Try.func20, Try.ntmps20
  go_wp2_with (at_builtin; go_loud (refine Lib.wpList_append_run _ rfl _ _ _ _ rfl (.slice none 0 0) (.int .i64 n) rfl rfl _ _ hr ?_))
  have hg := grownCap_ge w n 0 42
  have HO := World.ownsRow_made (base := w.heap.size) (e := 42) (size := 2) w (Builtin.zeroCells #[.int .i64 0, .int .i64 0] n ++ Builtin.zeroCells #[.int .i64 0, .int .i64 0] (grownCap w n 0 42 - n)) (grownCap w n 0 42) (Nat.le_refl _) (grownCap_le_maxLen w n 0 42 (by unfold maxLen; omega)) (by rw [Array.size_append, size_zeroCells, size_zeroCells]; simp; omega)
  go_ret
  exact ⟨_, rfl, HO, ((Below.refl _ _).alloc (Nat.le_refl _) _).drew⟩
theorem s_Grow (n : Nat) (hn : n ≤ 2000) (w : World) :
    Calls Try.prog 20 #[.slice none 0 0, .int .i64 n] w fun e w' => ∃ v, e = .returned v ∧ w'.ownsRow w.heap.size 42 2 v 0 [] ∧ Below w.heap.size w w' := by
  by_cases h : 0 < n
  · exact s_GrowN n h hn w
  · obtain rfl : n = 0 := by omega
    exact (s_Grow0 w).mono fun e w' ⟨he, hb⟩ => ⟨_, he, World.ownsRow_nil _ _ _ _, hb⟩
set_option maxRecDepth 100000 in
set_option maxHeartbeats 4000000 in
theorem s_Concat (A C : Option Addr) (ca cc : Nat) (cs cs2 : List Ch) (bk : Nat) (w : World) (hA : SlAt w w.heap.size 2 A (cs.map chCells)) (hC : SlAt w w.heap.size 2 C (cs2.map chCells)) (h1 : cs.length ≤ 1000) (h2 : cs2.length ≤ 1000) (hbk : bk < w.heap.size)
    (c0 : w.cell? ⟨bk, 0, none⟩ = some (.slice A cs.length ca)) (c1 : w.cell? ⟨bk, 1, none⟩ = some (.slice C cs2.length cc)) :
    Calls Try.prog 11 #[.slice (some ⟨bk, 0, none⟩) 2 2] w fun e w' => ∃ v, e = .returned v ∧ w'.ownsRow w.heap.size 42 2 v (cs ++ cs2).length ((cs ++ cs2).map chCells).flatten ∧ Below w.heap.size w w' := by
  obtain ⟨i1, hi1, hy0, hy1, hy2⟩ := info_parts info_Change
  have s1 : IntKind.i64.wrap (0 + (cs.length : Int)) = (cs.length : Int) := by rw [Int.zero_add]; exact IntWalk.i64_in _ (by omega)
  have s2 : IntKind.i64.wrap ((cs.length : Int) + (cs2.length : Int)) = (cs.length : Int) + (cs2.length : Int) := IntWalk.i64_in _ (by omega)
  have s3 : ¬ ((cs.length : Int) < 0) := by omega
  have s4 : ¬ ((cs.length : Int) + (cs2.length : Int) < 0) := by omega
  go_enter Try.func11, Try.ntmps11
  go_wp2_with fail
  refine wp_loop_rounds 3 ?_
  rw [rounds_succ]
  go_wp2_with fail
  rw [rounds_succ]
  go_wp2_with fail
  rw [rounds_succ]
  go_wp2_with fail
  have HG := s_Grow (cs.length + cs2.length) (by omega) w
  rw [Int.natCast_add] at HG
  refine HG.mono ?_
  rintro e w2 ⟨v, rfl, hO, hb2⟩
  have d0 := (hb2.cell (p := ⟨bk, 0, none⟩) hbk).trans c0
  have d1 := (hb2.cell (p := ⟨bk, 1, none⟩) hbk).trans c1
  have hA2 := (hA.below hb2).more hb2.size
  have hC2 := (hC.below hb2).more hb2.size
  have hbk2 : bk < w2.heap.size := Nat.lt_of_lt_of_le hbk hb2.size
  clear HG c0 c1
  go_wp2_with fail
  refine wp_loop_rounds 3 ?_
  rw [rounds_succ]
  go_wp2_with (at_builtin; refine wpList_append_all rfl _ _ _ rfl w.heap.size 42 i1 _ 2 16 Try.underlying23 hi1 hy0 hy1 hy2 rfl (by omega) v 0 [] rfl hO A cs.length ca _ rfl ch_flat (ch_src hA2) ch_one (by unfold maxLen; omega) (by omega) hb2.size ?_; intro v1 w3 hO1 hg1)
  have hb3 := below_app hb2.size hO hg1
  have e1 := (hb3.cell (p := ⟨bk, 1, none⟩) hbk).trans d1
  have hC3 := ((hC.below hb2).below hb3).more (Nat.le_trans hb2.size hb3.size)
  have hbk3 : bk < w3.heap.size := Nat.lt_of_lt_of_le hbk2 hb3.size
  rw [Nat.zero_add, List.nil_append] at hO1
  clear d0 d1
  rw [rounds_succ]
  go_wp2_with (at_builtin; refine wpList_append_all rfl _ _ _ rfl w.heap.size 42 i1 _ 2 16 Try.underlying23 hi1 hy0 hy1 hy2 rfl (by omega) v1 cs.length _ rfl hO1 C cs2.length cc _ rfl ch_flat (ch_src hC3) ch_one (by unfold maxLen; omega) (by omega) (Nat.le_trans hb2.size hb3.size) ?_; intro v2 w4 hO2 hg2)
  have hb4 := below_app (Nat.le_trans hb2.size hb3.size) hO1 hg2
  rw [rounds_succ]
  go_wp2_with fail
  go_ret
  exact ⟨v2, rfl, by rw [List.length_append, List.map_append, List.flatten_append]; exact hO2, (hb2.trans hb3).trans hb4⟩
end Go.Proofs.Ytbnajjfkkgmflaa
