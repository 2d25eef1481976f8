/- Walk of (*Maker).Change. -/
import Derived.Test.YtbnajjfkkgmflaaNmC
namespace Go.Proofs.Ytbnajjfkkgmflaa
open Go.RowKit
set_option linter.unusedVariables false
attribute [local go_sem ↓] Go.wp_at_zero Go.wp_at_succ
def ChgPost (base m : Nat) (T C : Value) (s : NSt) (at_ : Int) (x : Ty) (w : World) (e : Ending) (w' : World) : Prop :=
  ∃ T' C', e = .returned (.tuple #[]) ∧ MkC w' base m T' C' (nStep s at_ x) ∧ Below base w w' ∧ ∀ k, k < w.heap.size → k ≠ m → T.ownBlock ≠ some k → C.ownBlock ≠ some k → w'.heap[k]? = w.heap[k]?
set_option maxRecDepth 100000 in
set_option maxHeartbeats 2000000 in
theorem m_Change_same (base m : Nat) (T C : Value) (s : NSt) (at_ : Int) (x : Ty) (w : World) (h : MkC w base m T C s) (hx : x = s.last) :
    Calls Try.prog 30 #[.pointer (some ⟨m, 0, none⟩), .int .i64 at_, tyV x] w (ChgPost base m T C s at_ x w) := by
  have HE := Lib.hid (nStep_same (at_ := at_) hx)
  have hM := h.alloc (.cells #[.int .i64 x.1, .bool x.2.1, .string x.2.2] 45)
  have x1 := hM.blk.cell
  have HM := Lib.hid hM
  rw [← hx] at x1
  have HB := Lib.hid ((Below.refl base w).alloc h.lt (.cells #[.int .i64 x.1, .bool x.2.1, .string x.2.2] 45))
  clear h hx hM
  go_enter Try.func30, Try.ntmps30
  go_wp2_with fail
  go_quiet (fail)
  go_wp2_with fail
  go_end0
  exact ⟨T, C, rfl, by rw [HE.out]; exact HM.out.drewN _, below_drewN HB.out _, fun k hk _ _ _ => Below.heap_alloc w _ k hk⟩
set_option maxRecDepth 100000 in
set_option maxHeartbeats 4000000 in
theorem m_Change_other (base m : Nat) (T C : Value) (s : NSt) (at_ : Int) (x : Ty) (w : World) (h : MkC w base m T C s) (hx : ¬ x = s.last) (hl : s.ts.length ≤ 100000) (hl2 : s.cs.length ≤ 100000) :
    Calls Try.prog 30 #[.pointer (some ⟨m, 0, none⟩), .int .i64 at_, tyV x] w (ChgPost base m T C s at_ x w) := by
  obtain ⟨i0, hi0, hz0, hz1, hz2⟩ := info_parts info_Change
  have HE := Lib.hid (nStep_other (at_ := at_) hx)
  have hM := h.alloc (.cells #[.int .i64 x.1, .bool x.2.1, .string x.2.2] 45)
  have x1 := hM.blk.cell
  have hmz := h.blk.lt
  have HX := Blk.new w #[.int .i64 x.1, .bool x.2.1, .string x.2.2] 45
  have x2 := HX.cell
  have HM := Lib.hid hM
  have heq := run_eq_ty x s.last
  rw [decide_eq_false hx] at heq
  have HH := Lib.hid h
  clear h hx hM
  go_enter Try.func30, Try.ntmps30
  go_wp2_with fail
  go_quiet (fail)
  go_wp2_with fail
  have HB := Lib.hid (below_drewN ((Below.refl base w).alloc HH.out.lt (.cells #[.int .i64 x.1, .bool x.2.1, .string x.2.2] 45)) nq)
  have HM0 := Lib.hid (HM.out.drewN nq)
  have HX0 := Lib.hid (HX.drewN nq)
  have HK0 := Lib.hid (fun k (hk : k < w.heap.size) => (show ((w.alloc (.cells #[.int .i64 x.1, .bool x.2.1, .string x.2.2] 45)).drewN nq).heap[k]? = w.heap[k]? from Below.heap_alloc w _ k hk))
  clear x1 x2 HX HM heq
  revert HB HM0 HX0 HK0
  generalize (w.alloc (.cells #[.int .i64 x.1, .bool x.2.1, .string x.2.2] 45)).drewN nq = W0
  intro HB HM0 HX0 HK0
  have x1 := HM0.out.blk.cell
  have hmz0 := HM0.out.blk.lt
  have x2 := HX0.out.cell
  have hxz := HX0.out.lt
  go_region_law (first
    | ((refine step_append_lies _ (by rfl) _ _ _ (by rfl) base 42 i0 _ 2 16 Try.underlying23 hi0 hz0 hz1 hz2 rfl (by omega) C s.cs.length _ (by rfl) (World.ownsRow.alloc hM5.hC _) ⟨w5.heap.size, 0, none⟩ 1 1 (chCells (at_, (numTy s.ts x : Int))) (by rfl) (by rfl) (World.news_of_block (cs := (chCells (at_, (numTy s.ts x : Int))).toArray) (t := 42) (fr := (0, 0)) (heap_alloc_new w5 _)) (by simp [Value.oneCell', chCells]) (by omega) (by unfold maxLen; omega) (by omega) (by have := hM5.lt; simp; omega) (w5.heap.size + 1) (by simp) ?_; intro gg cap2 w6 hown1 hgrow hat hlt; have hm6 := Blk.grown' hgrow (hM5.blk.alloc _) (hM5.blk.own_ne hM5.hC (by decide)); have y0 := hm6.cell 2; have y1 := hm6.frz 2; clear hm6))
    | (go_simp; go_at_call 45; refine (m_number base m T C s x _ (MkC.drew HM0.out) hl).mono ?_; rintro e w5 ⟨T', rfl, hM5, hB5, hK5⟩; have z0 := hM5.blk.cell 2; have z1 := hM5.blk.lt))
  all_goals
    have K := mk_app_C (c := (at_, (numTy s.ts x : Int))) (hM5.alloc (.cells #[.int .i64 at_, .int .i64 (numTy s.ts x : Int)] 42)) hgrow hown1
    have hTn : T.ownBlock ≠ some w.heap.size := fun e => absurd (HH.out.hT.lt _ e).2 (by omega)
    have hCn : C.ownBlock ≠ some w.heap.size := fun e => absurd (HH.out.hC.lt _ e).2 (by omega)
    have hX5 : Blk w5 w.heap.size 45 #[.int .i64 x.1, .bool x.2.1, .string x.2.2] := (hK5 _ hxz (by omega) hTn).trans HX0.out
    have hX6 := (Blk.grown' hgrow (hX5.alloc _) hCn).far (a := ⟨m, 2, none⟩) (by simp; omega) (.slice (some ⟨gg, 0, none⟩) (s.cs.length + 1) cap2)
    have hBB := Lib.hid ((((HB.out.drew.trans hB5).alloc hM5.lt (.cells #[.int .i64 at_, .int .i64 (numTy s.ts x : Int)] 42))).trans K.2)
    have hK7 := Lib.hid (fun k (hk : k < w.heap.size) (h1 : k ≠ m) (h2 : T.ownBlock ≠ some k) (h3 : C.ownBlock ≠ some k) => (Below.heap_setCell w6 ⟨m, 2, none⟩ (.slice (some ⟨gg, 0, none⟩) (s.cs.length + 1) cap2) k h1).trans ((hgrow.block k (Nat.lt_of_lt_of_le (Nat.lt_of_lt_of_le (show k < W0.drew.heap.size from Nat.lt_trans hk hxz) hB5.size) (by simp)) (Ne.symm h3)).trans ((Below.heap_alloc w5 _ k (Nat.lt_of_lt_of_le (show k < W0.drew.heap.size from Nat.lt_trans hk hxz) hB5.size)).trans ((hK5 k (Nat.lt_trans hk hxz) h1 h2).trans (HK0.out k hk)))))
    have K1 := Lib.hid K.1
    clear K y0 y1 z0 z1 x1 x2 hown1 hgrow hat hM5 hK5 hB5 hX5
    revert hK7 hBB K1 hX6
    generalize w6.setCell ⟨m, 2, none⟩ (.slice (some ⟨gg, 0, none⟩) (s.cs.length + 1) cap2) = W1
    intro hX6 hBB hK7 K1
    have x1 := hX6.cell
    have y1 := K1.out.blk.cell
    have y2 := K1.out.blk.frz
    go_wp2_with fail
    go_end0
    have L := mk_last (x := x) K1.out
    exact ⟨_, _, rfl, by rw [HE.out]; exact L.1, hBB.out.trans L.2, fun k hk h1 h2 h3 => (Below.heap_setCell _ _ _ _ h1).trans ((Below.heap_setCell _ _ _ _ h1).trans ((Below.heap_setCell _ _ _ _ h1).trans (hK7.out k hk h1 h2 h3)))⟩
theorem m_Change (base m : Nat) (T C : Value) (s : NSt) (at_ : Int) (x : Ty) (w : World) (h : MkC w base m T C s) (hl : s.ts.length ≤ 100000) (hl2 : s.cs.length ≤ 100000) :
    Calls Try.prog 30 #[.pointer (some ⟨m, 0, none⟩), .int .i64 at_, tyV x] w (ChgPost base m T C s at_ x w) := by
  rcases Classical.em (x = s.last) with hx | hx
  · exact m_Change_same base m T C s at_ x w h hx
  · exact m_Change_other base m T C s at_ x w h hx hl hl2
end Go.Proofs.Ytbnajjfkkgmflaa
