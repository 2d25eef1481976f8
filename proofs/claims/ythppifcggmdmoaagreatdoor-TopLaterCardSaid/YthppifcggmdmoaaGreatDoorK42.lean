/- Part 42 of the proof of TopLater: no condition; what its declarations say stands at each. -/
import Derived.Test.YthppifcggmdmoaaGreatDoorK41
namespace Go.Proofs.YthppifcggmdmoaaGreatDoor
open Go.RowKit Go.Shelf
set_option linter.unusedVariables false
attribute [local go_sem] Oper.semAt_some
def NxPost (ts : List Ty) (first : Int) (cs : List Ch) (after second : Int) (w : World) (e : Ending) (w' : World) : Prop := ∃ r, e = .returned (.tuple #[.int .i64 r, .int .i64 0]) ∧ NxLeast ts first cs after second r ∧ Below w.heap.size w w'
set_option maxRecDepth 100000 in
set_option maxHeartbeats 4000000 in
theorem w_Next_ok (A C : Option Addr) (capT capC : Nat) (ts : List Ty) (first : Int) (cs : List Ch) (after second : Int) (w : World) (H : TabAt w A C capT capC ts cs) (h0 : timedE ts first cs after = 0) (s1 : 0 ≤ second) (s2 : second < 86400) :
  Calls Tryz.prog 13 #[.agg #[.slice A ts.length capT, .int .i64 first, .slice C cs.length capC], .int .i64 after, .int .i64 second] w (NxPost ts first cs after second w) := by
 refine (callsIn_wide (n := 5)).1 ?_
 have d1 : decide (second < 0) = false := decide_eq_false (by omega)
 have d2 : decide (86400 ≤ second) = false := decide_eq_false (by omega)
 obtain ⟨h1, t1, t2⟩ := timed_parts h0
 have hK := tabOk h1
 have HK := Lib.hid hK
 have hcm := hK.cmax
 have k0 := Blk.new w #[.slice A ts.length capT, .int .i64 first, .slice C cs.length capC] 37
 obtain ⟨W1, hW1⟩ : ∃ W, w.alloc (.cells #[.slice A ts.length capT, .int .i64 first, .slice C cs.length capC] 37) = W := ⟨_, rfl⟩
 have e1 : W1.heap.size = w.heap.size + 1 := by rw [← hW1]; simp
 have k1 := Blk.new W1 #[.int .i64 after] 3
 obtain ⟨W2, hW2⟩ : ∃ W, W1.alloc (.cells #[.int .i64 after] 3) = W := ⟨_, rfl⟩
 have e2 : W2.heap.size = w.heap.size + 1 + 1 := by rw [← hW2]; simp [e1]
 have k2 := Blk.new W2 #[.int .i64 second] 3
 obtain ⟨W3, hW3⟩ : ∃ W, W2.alloc (.cells #[.int .i64 second] 3) = W := ⟨_, rfl⟩
 have e3 : W3.heap.size = w.heap.size + 1 + 1 + 1 := by rw [← hW3]; simp [e2]
 have k3 := Blk.new W3 #[.int .i64 0] 3
 obtain ⟨W4, hW4⟩ : ∃ W, W3.alloc (.cells #[.int .i64 0] 3) = W := ⟨_, rfl⟩
 have e4 : W4.heap.size = w.heap.size + 1 + 1 + 1 + 1 := by rw [← hW4]; simp [e3]
 have k4 := Blk.new W4 #[.int .i64 0] 27
 rw [e1] at k1
 rw [e2] at k2
 rw [e3] at k3
 rw [e4] at k4
 have b1 : Below w.heap.size w W1 := by rw [← hW1]; exact (Below.refl _ _).alloc (Nat.le_refl _) _
 have b2 : Below w.heap.size w W2 := by rw [← hW2]; exact b1.alloc b1.size _
 have b3 : Below w.heap.size w W3 := by rw [← hW3]; exact b2.alloc b2.size _
 have b4 : Below w.heap.size w W4 := by rw [← hW4]; exact b3.alloc b3.size _
 have hbx : Below w.heap.size w (W4.alloc (.cells #[.int .i64 0] 27)) := b4.alloc b4.size _
 have HC := Lib.hid ((callsIn_wide (n := 4)).2 (w_check A C capT capC ts first cs after _ (H.below hbx)))
 rw [h0] at HC
 have KK : Blk (W4.alloc (.cells #[.int .i64 0] 27)) w.heap.size 37 #[.slice A ts.length capT, .int .i64 first, .slice C cs.length capC] ∧ Blk (W4.alloc (.cells #[.int .i64 0] 27)) (w.heap.size + 1) 3 #[.int .i64 after] ∧
   Blk (W4.alloc (.cells #[.int .i64 0] 27)) (w.heap.size + 1 + 1) 3 #[.int .i64 second] ∧ Blk (W4.alloc (.cells #[.int .i64 0] 27)) (w.heap.size + 1 + 1 + 1) 3 #[.int .i64 0] ∧ Blk (W4.alloc (.cells #[.int .i64 0] 27)) (w.heap.size + 1 + 1 + 1 + 1) 27 #[.int .i64 0] := by
  rw [hW1] at k0
  rw [hW2] at k1
  rw [hW3] at k2
  rw [hW4] at k3
  exact ⟨by rw [← hW4, ← hW3, ← hW2]; exact (((k0.alloc _).alloc _).alloc _).alloc _, by rw [← hW4, ← hW3]; exact ((k1.alloc _).alloc _).alloc _, by rw [← hW4]; exact (k2.alloc _).alloc _, k3.alloc _, k4⟩
 rw [← hW4, ← hW3, ← hW2, ← hW1] at HC KK hbx
 have hk := Lib.hid KK
 clear h0 h1 hK b1 b2 b3 b4 k0 k1 k2 k3 k4 KK e1 e2 e3 e4 hW1 hW2 hW3 hW4 W1 W2 W3 W4
 refine callsIn_of_wp_marks Tryz.func13 rfl trivial ?_ rfl
 simp only [Tryz.ntmps13, List.size_toArray, List.length_cons, List.length_nil, Nat.reduceAdd, Nat.reduceSub, Array.replicate_succ, Array.replicate_zero, List.push_toArray, List.append_toArray, List.nil_append, List.cons_append]
 gi_wp2_with fail
 refine ⟨trivial, ?_⟩
 refine HC.out.mono ?_
 rintro e w1 ⟨rfl, hb⟩
 obtain ⟨x0, x1, x2, x3, x4⟩ := hk.out
 have y0 := x0.step hb
 have y1 := x1.step hb
 have y2 := x2.step hb
 have y3 := x3.step hb
 have y4 := x4.step hb
 have hb1 := hbx.trans (hb.mono hbx.size)
 clear x0 x1 x2 x3 x4 hk hb HC hbx
 have c0 := y0.cell
 have c2 := y2.cell 0
 simp at c2
 gi_wp2_with fail
 refine ⟨trivial, ?_⟩
 refine (pieces_in _ _ _ _ _).mono ?_
 rintro e w' ⟨rfl, rfl⟩
 gi_wp2_with fail
 have bT := Blk.new w1 #[.slice A ts.length capT, .int .i64 first, .slice C cs.length capC] 37
 have hB0 : Below w1.heap.size w1 (w1.alloc (.cells #[.slice A ts.length capT, .int .i64 first, .slice C cs.length capC] 37)) := (Below.refl _ w1).alloc (Nat.le_refl _) _
 have hsz : (w1.alloc (.cells #[.slice A ts.length capT, .int .i64 first, .slice C cs.length capC] 37)).heap.size = w1.heap.size + 1 := by simp
 obtain ⟨W0, hW0⟩ : ∃ W0, (w1.alloc (.cells #[.slice A ts.length capT, .int .i64 first, .slice C cs.length capC] 37)) = W0 := ⟨_, rfl⟩
 rw [hW0] at bT hB0 hsz ⊢
 have z3 := y3.lt
 have z4 := y4.lt
 clear hW0 c0 c2
 refine wpIn_rangeFunc_ownH rfl (by omega) (gf := 72) (lb := #[.pointer (some ⟨w1.heap.size, 0, none⟩)]) rfl trivial (enters_of Tryz.func72 (by kernel_rfl) rfl)
  (pieces_stops (5 - 1) (by omega) w1.heap.size w1.heap.size A C capT capC ts first cs w1 W0 HK.out (H.below hb1) hB0 bT rfl) KpT.trans (KpT.turn (by omega)) (Below.refl _ _) (fun _ => rfl)
  (fun pre W => (∀ i ∈ pre, nxP after second (pcAt ts first cs i) = none) ∧ Below w1.heap.size w1 W)
  (fun c pre W => (c = .ret ∧ ∃ ini j r, pre = ini ++ [j] ∧ (∀ i ∈ ini, nxP after second (pcAt ts first cs i) = none) ∧ nxP after second (pcAt ts first cs j) = some r ∧ Boxed W (w.heap.size + 1 + 1 + 1) 3 (.int .i64 r) ∧ Boxed W (w.heap.size + 1 + 1 + 1 + 1) 27 (.int .i64 0)) ∧ Below w.heap.size w W)
  (OwnFrom.and (ownFrom_pure _ _) (ownFrom_below (Nat.le_refl _) (by omega)))
  (fun c => OwnFrom.and (Own.from (fun s A B row hs hg hr => by
   obtain ⟨hc, ini, j, r, e1, e2, e3, e4, e5⟩ := hs
   exact ⟨hc, ini, j, r, e1, e2, e3, boxed_own _ _ (fun (_ : Unit) => Value.int .i64 r) () A B row e4 hg hr, boxed_own _ _ (fun (_ : Unit) => Value.int .i64 0) () A B row e5 hg hr⟩) _) (ownFrom_below (Nat.le_refl _) (by omega)))
  ⟨fun i h => by simp at h, hB0⟩
  (fun x a' W => ∃ Bx, w1.heap.size ≤ Bx ∧ Blk W Bx 47 #[.int .i64 (pcFrom cs x), .int .i64 (pcTo cs x)] ∧ a' = { tmps := #[.agg #[.slice A ts.length capT, .int .i64 first, .slice C cs.length capC], .int .i64 after, .int .i64 second, .pointer (some ⟨w.heap.size, 0, none⟩), .pointer (some ⟨w.heap.size + 1, 0, none⟩), .pointer (some ⟨w.heap.size + 1 + 1, 0, none⟩), .pointer (some ⟨w.heap.size + 1 + 1 + 1, 0, none⟩), .pointer (some ⟨w.heap.size + 1 + 1 + 1 + 1, 0, none⟩), .int .i64 0, .pointer (some ⟨Bx, 0, none⟩), .int .i64 (offK ts (pcK first cs x)), undef, undef, undef, undef, undef, .agg #[.slice A ts.length capT, .int .i64 first, .slice C cs.length capC], .int .i64 after, .int .i64 0, .int .i64 0, .bool false, undef, .int .i64 second, .bool false, .bool false, .int .i64 second, .bool false, .bool false, .agg #[.slice A ts.length capT, .int .i64 first, .slice C cs.length capC], .func (.func 72) #[] #[.pointer (some ⟨w1.heap.size, 0, none⟩)], .agg #[.int .i64 (pcFrom cs x), .int .i64 (pcTo cs x)], .int .i64 (offK ts (pcK first cs x)), undef, undef, undef, undef, undef, undef, undef, undef, undef, undef, undef, undef, undef, undef, undef, undef, undef, undef, undef, undef, undef, undef, undef, undef, undef, undef, undef, undef, undef, undef, undef, undef, undef, undef], defers := [] })
  (fun x a' _ X Y row hs hg hr => by obtain ⟨Bx, h1, h2, h3⟩ := hs; exact ⟨Bx, h1, blk_own Bx 47 (fun (_ : Unit) => #[.int .i64 (pcFrom cs x), .int .i64 (pcTo cs x)]) () X Y row h2 hg (fun r e => (hr r e).2), h3⟩)
  ?assign ?body ?done ?stop
 case assign =>
  rintro l' pre x W K ⟨hp, hB1⟩ hK
  have hvl2 : w1.heap.size ≤ W.heap.size := hB1.size
  gi_wp2
  exact hK _ _ ((KeepsOthers.alloc _ _).from _) (KpT.below ((Below.refl _ W).alloc (Nat.le_refl _) _) hB1.size) ⟨hp, hB1.alloc hB1.size _⟩ ⟨W.heap.size, hvl2, Blk.new W _ _, rfl⟩
 case body =>
  rintro l' pre x a' W hl ⟨r, hr⟩ ⟨hp, hB⟩ ⟨Bx, hBx, bX, rfl⟩ hlt
  have hKr := pc_any HK.out x
  obtain ⟨⟨f1, f2⟩, ⟨g1, g2⟩, ⟨o1, o2⟩⟩ := hKr
  have hnx : nxP after second (pcAt ts first cs x) = nxP after second (pcFrom cs x, pcTo cs x, offK ts (pcK first cs x)) := rfl
  obtain ⟨f0, hf0⟩ : ∃ y, pcFrom cs x = y := ⟨_, rfl⟩
  obtain ⟨g0, hg0⟩ : ∃ y, pcTo cs x = y := ⟨_, rfl⟩
  obtain ⟨o0, ho0⟩ : ∃ y, offK ts (pcK first cs x) = y := ⟨_, rfl⟩
  rw [hf0, hg0, ho0] at hnx
  rw [hf0, hg0] at bX
  rw [hf0] at f1 f2 ⊢
  rw [hg0] at g1 g2 ⊢
  rw [ho0] at o1 o2 ⊢
  obtain ⟨fm, hfm⟩ : ∃ y, max f0 (after + 1) = y := ⟨_, rfl⟩
  obtain ⟨nw, hnw⟩ : ∃ y, (fm + o0) % 86400 = y := ⟨_, rfl⟩
  obtain ⟨wt, hwt⟩ : ∃ y, (second - nw) % 86400 = y := ⟨_, rfl⟩
  have HV : Hid (nxP after second (pcAt ts first cs x) = if fm < g0 ∧ fm + wt < g0 then some (fm + wt) else none) := Lib.hid (by
   rw [hnx]; unfold nxP nxW nxF; simp only [hfm, hnw, hwt])
  have m1 : -4611686018427387904 ≤ fm ∧ fm ≤ 1099511627777 := by omega
  have m2 : 0 ≤ nw ∧ nw < 86400 := by omega
  have m3 : 0 ≤ wt ∧ wt < 86400 := by omega
  obtain ⟨m11, m12⟩ := m1
  obtain ⟨m21, m22⟩ := m2
  obtain ⟨m31, m32⟩ := m3
  clear hf0 hg0 ho0 hnx
  have q1 := y1.below hB y1.lt
  have q2 := y2.below hB y2.lt
  have q3 := y3.below hB y3.lt
  have q4 := y4.below hB y4.lt
  have c1 := q1.cell 0
  have cX0 := bX.cell 0
  simp at c1 cX0
  have HNW := Lib.hid hnw
  have HWT := Lib.hid hwt
  clear hnw hwt
  gi_wp2_with fail
  refine ⟨trivial, ?_⟩
  refine (CallsIn.inRound l' ((callsIn_wide (n := 2)).2 (fl_Floor _ (by omega) (by omega) _))).mono ?_
  rintro e Wa ⟨rfl, hba⟩
  rw [HNW.out]
  clear hfm c1 cX0
  have q2a := q2.step hba
  have c2 := q2a.cell 0
  simp at c2
  gi_wp2_with fail
  refine ⟨trivial, ?_⟩
  refine (CallsIn.inRound l' ((callsIn_wide (n := 2)).2 (fl_Floor _ (by omega) (by omega) _))).mono ?_
  rintro e Wb ⟨rfl, hbb⟩
  rw [HWT.out]
  have hW2 : Below W.heap.size W Wb := hba.trans (hbb.mono hba.size)
  have q3b := q3.step hW2
  have q4b := q4.step hW2
  have bXb := bX.step hW2
  have c3 := q3b.cell 0
  have c4 := q4b.cell 0
  have e3 := q3b.frz 0
  have e4 := q4b.frz 0
  have cX1 := bXb.cell 1
  simp at c3 c4 cX1
  clear c2 hba hbb
  by_cases hc : fm < g0 ∧ fm + wt < g0
  ·obtain ⟨hc1, hc2⟩ := hc
   have HV2 := Lib.hid (HV.out.trans (if_pos ⟨hc1, hc2⟩))
   have hKO : KeepsOthers W Wb := KeepsOthers.of_grownBy (row := none) ⟨hW2.os, hW2.tape, hW2.output, hW2.size, fun i hi _ => hW2.block i hi⟩ (fun j o h => by cases h)
   have hBW : Below w.heap.size w Wb := (hb1.trans (hB.mono hb1.size)).trans (hW2.mono (hb1.trans (hB.mono hb1.size)).size)
   have q3' : Boxed Wb (w.heap.size + 1 + 1 + 1) 3 (.int .i64 0) := q3b
   have q4' : Boxed Wb (w.heap.size + 1 + 1 + 1 + 1) 27 (.int .i64 0) := q4b
   have HX := Lib.hid (show (Code.ret = Code.ret ∧ ∃ ini j r, pre ++ [x] = ini ++ [j] ∧ (∀ i ∈ ini, nxP after second (pcAt ts first cs i) = none) ∧ nxP after second (pcAt ts first cs j) = some r ∧ Boxed ((Wb.setCell ⟨w.heap.size + 1 + 1 + 1, 0, none⟩ (.int .i64 (fm + wt))).setCell ⟨w.heap.size + 1 + 1 + 1 + 1, 0, none⟩ (.int .i64 0)) (w.heap.size + 1 + 1 + 1) 3 (.int .i64 r) ∧ Boxed ((Wb.setCell ⟨w.heap.size + 1 + 1 + 1, 0, none⟩ (.int .i64 (fm + wt))).setCell ⟨w.heap.size + 1 + 1 + 1 + 1, 0, none⟩ (.int .i64 0)) (w.heap.size + 1 + 1 + 1 + 1) 27 (.int .i64 0)) ∧ Below w.heap.size w ((Wb.setCell ⟨w.heap.size + 1 + 1 + 1, 0, none⟩ (.int .i64 (fm + wt))).setCell ⟨w.heap.size + 1 + 1 + 1 + 1, 0, none⟩ (.int .i64 0)) from
    ⟨⟨rfl, pre, x, fm + wt, rfl, hp, HV2.out, (q3'.set _).other (by omega) _, (q4'.other (by omega) _).set _⟩, (hBW.setCell (p := ⟨w.heap.size + 1 + 1 + 1, 0, none⟩) (show w.heap.size ≤ w.heap.size + 1 + 1 + 1 by omega) _).setCell (p := ⟨w.heap.size + 1 + 1 + 1 + 1, 0, none⟩) (show w.heap.size ≤ w.heap.size + 1 + 1 + 1 + 1 by omega) _⟩)
   have HKO := Lib.hid hKO
   clear q3' q4' hBW hKO
   gi_wp2_with fail
   exact ⟨((HKO.out.trans (KeepsOthers.setCell _ _ _)).trans (KeepsOthers.setCell _ _ _)).from _, ⟨⟨rfl, HX.out.1.2⟩, HX.out.2⟩⟩
  ·have HV2 := Lib.hid (HV.out.trans (if_neg hc))
   have hc' : g0 ≤ fm ∨ (fm < g0 ∧ g0 ≤ fm + wt) := by omega
   have HKO := Lib.hid (KeepsOthers.of_grownBy (W := W) (W' := Wb) (row := none) ⟨hW2.os, hW2.tape, hW2.output, hW2.size, fun i hi _ => hW2.block i hi⟩ (fun j o h => by cases h))
   have HBK := Lib.hid (show KpT w1.heap.size W Wb from KpT.below hW2 hB.size)
   have HI := Lib.hid (show (∀ i ∈ pre ++ [x], nxP after second (pcAt ts first cs i) = none) from fun i hi => by
    rcases List.mem_append.1 hi with hi | hi
    ·exact hp i hi
    ·simp at hi; subst hi; exact HV2.out)
   have HB9 := Lib.hid (hB.trans (hW2.mono hB.size))
   clear hc
   rcases hc' with hc1 | ⟨hc1, hc2⟩
   all_goals
    gi_wp2_with fail
    exact ⟨HKO.out.from _, HBK.out, HI.out, HB9.out⟩
 case done =>
  rintro D ys W hD rfl ⟨hp, hB⟩ hK
  obtain ⟨q, hq, _⟩ := nx_last HK.out t1 t2 s1 s2
  have := hp cs.length (by simp)
  rw [hq] at this
  cases this
 case stop =>
  rintro D c pre W hD ⟨k, hk, rfl⟩ ⟨⟨rfl, ini, j, r, e1, e2, e3, b3, b4⟩, hB⟩ hK
  obtain ⟨k', rfl⟩ : ∃ k', k = k' + 1 := by
   cases k with
   | zero => simp at e1
   | succ k' => exact ⟨k', rfl⟩
  rw [List.range_succ] at e1
  obtain ⟨rfl, e5⟩ := List.append_inj' e1 rfl
  obtain rfl : k' = j := by simpa using e5
  have HL := Lib.hid (nx_stop HK.out t1 t2 s1 s2 (show k' ≤ cs.length by omega) (fun i hi => e2 i (by simpa using hi)) e3)
  have hB9 : Below w.heap.size w (W.putObj D (.deferred none)) := hB.trans (belowK_b (w := w) (Nat.le_refl _) W D _ _ (by have := hb1.size; omega) hK rfl rfl)
  have HB9 := Lib.hid hB9
  have p3 := cell_kept b3.cell (grownBy_putObj' W D (.deferred none)) (fun r e => by cases e; exact ⟨_, hK, rfl⟩)
  have p4 := cell_kept b4.cell (grownBy_putObj' W D (.deferred none)) (fun r e => by cases e; exact ⟨_, hK, rfl⟩)
  clear e1 e2 e3 e5 hB9
  gi_wp2_with fail
  refine ⟨by simp, .inl ⟨_, _, rfl, run_takeDeferred hK, ?_⟩⟩
  exact ⟨.tuple #[.int .i64 r, .int .i64 0], by simp [results, Tryz.f13, go_sem, p3, p4], r, rfl, HL.out, HB9.out⟩
attribute [local go_sem ↓] Go.wp_at_zero Go.wp_at_succ
end Go.Proofs.YthppifcggmdmoaaGreatDoor

