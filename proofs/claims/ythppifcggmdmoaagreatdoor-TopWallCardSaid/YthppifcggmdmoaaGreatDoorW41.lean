/- Part 41 of the proof of TopWall: no condition; what its declarations say stands at each. -/
import Derived.RangeFuncNested
import Derived.RangeFuncBound
import Derived.RangeFuncCalls
import Derived.RangeFuncLeaves
import Derived.RangeFuncBox
import Derived.Shelf.Abstract
import Derived.Shelf.RegionOpen
import Derived.WalkKit
import Derived.OwnWalkIn
import Derived.TacticsInMore
import Derived.LoopNIn
import Derived.LoopIn
import Derived.Sort.QuietIn
import Derived.Test.YthppifcggmdmoaaGreatDoorW04
import Derived.Test.YthppifcggmdmoaaGreatDoorW02
import Derived.Test.YthppifcggmdmoaaGreatDoorW40
import Derived.Test.YthppifcggmdmoaaGreatDoorW35
import Derived.Test.YthppifcggmdmoaaGreatDoorW31
import Derived.Test.YthppifcggmdmoaaGreatDoorW37
import Derived.Deep.Cut
import Derived.Test.YthppifcggmdmoaaGreatDoorW38
namespace Go.Proofs.YthppifcggmdmoaaGreatDoor
open Go.RowKit Go.Shelf
set_option linter.unusedVariables false
attribute [local go_sem] Oper.semAt_some
def KpT (n₀ : Nat) (A B : World) : Prop := Below n₀ A B ∧ ∀ g t cs, (t = 37 ∨ t = 44) → Blk A g t cs → Blk B g t cs
theorem KpT.refl (n₀ : Nat) (A : World) : KpT n₀ A A := ⟨Below.refl _ _, fun _ _ _ _ h => h⟩
theorem KpT.trans {n₀ : Nat} {A B C : World} (h : KpT n₀ A B) (k : KpT n₀ B C) : KpT n₀ A C := ⟨h.1.trans k.1, fun g t cs ht hb => k.2 g t cs ht (h.2 g t cs ht hb)⟩
theorem KpT.turn {n₀ : Nat} {w : World} (hn : n₀ ≤ w.heap.size) (W : World) (l : Nat) (o o' : Obj) (hl : w.heap.size ≤ l) (h : W.heap[l]? = some o) (h1 : o.isCells = false) (h2 : o.isWalk = false) : KpT n₀ W (W.putObj l o') :=
 ⟨belowK_b hn W l o o' hl h h1 h2, fun g t cs ht hb => hb.grown (grownBy_putObj' W l o') (fun e => by
  injection e with e
  subst e
  have e2 := (show W.heap[l]? = _ from hb).symm.trans h
  injection e2 with e2
  subst e2
  cases h1)⟩
theorem KpT.below {n₀ : Nat} {A B : World} (h : Below A.heap.size A B) (hn : n₀ ≤ A.heap.size) : KpT n₀ A B := ⟨h.mono hn, fun g t cs _ hb => hb.step h⟩
def YRes (n₀ : Nat) (J Jx : List Nat → World → Prop) (pre : List Nat) (x : Nat) (W : World) (b : Bool) (W' : World) : Prop :=
 (b = true ∧ J (pre ++ [x]) W' ∧ KpT n₀ W W') ∨ (b = false ∧ Jx (pre ++ [x]) W')

set_option maxRecDepth 100000 in
set_option maxHeartbeats 4000000 in
theorem pieces1_in (n : Nat) (hn : 1 ≤ n) (l Bt n₀ : Nat) (A C : Option Addr) (capT capC : Nat) (ts : List Ty) (first : Int) (cs : List Ch) (K : TabOk ts first cs) (hcT : ts.length ≤ capT) (hmT : capT ≤ maxLen) (hcC : cs.length ≤ capC) (hmC : capC ≤ maxLen)
  (J Jx : List Nat → World → Prop)
  (hY : ∀ pre x W, J pre W → pre.length < cs.length + 1 → YieldAt Fence.wide (n - 1) Tryz.prog l #[.agg #[.int .i64 (pcFrom cs x), .int .i64 (pcTo cs x)], .int .i64 (offK ts (pcK first cs x))] W fun e W' =>
   (e = .returned (.bool true) ∧ J (pre ++ [x]) W' ∧ KpT n₀ W W') ∨ (e = .returned (.bool false) ∧ Jx (pre ++ [x]) W'))
  (W : World) (hJ : AbidesFrom W.heap.size J) (hBt : Blk W Bt 37 #[.slice A ts.length capT, .int .i64 first, .slice C cs.length capC]) (hn₀ : n₀ ≤ W.heap.size)
  (HT : SlAt W n₀ 3 A (ts.map tyCells)) (HC : SlAt W n₀ 2 C (cs.map chCells)) (h0 : J [] W) :
  CallsIn Fence.wide n Tryz.prog 72 #[.func (.yield l) #[] #[], .pointer (some ⟨Bt, 0, none⟩)] W fun e W' => (∃ v, e = .returned v) ∧
   ((∃ ys, ys = List.range (cs.length + 1) ∧ J ys W') ∨ (∃ pre, (∃ k, k ≤ cs.length + 1 ∧ pre = List.range k) ∧ Jx pre W')) := by
 have hcmax := K.cmax
 have htmax := K.tmax
 have hmx : Tryz.prog.follows .mixedOrders = true := by kernel_rfl
 have hc0 := hBt.cell 0
 have hc1 := hBt.cell 1
 have hc2 := hBt.cell 2
 simp at hc0 hc1 hc2
 unfold maxLen at hmT hmC
 refine callsIn_of_wp Tryz.func72 rfl trivial ?_ rfl
 simp only [Tryz.ntmps72, List.size_toArray, List.length_cons, List.length_nil, Nat.reduceAdd, Nat.reduceSub, Array.replicate_succ, Array.replicate_zero, List.push_toArray, List.append_toArray, List.nil_append, List.cons_append]
 gi_wp2
 gi_quiet (fail)
 gi_wp2
 have hJd : J [] (W.drewN nq) := hJ [] W (W.drewN nq) none h0 ⟨rfl, rfl, rfl, Nat.le_refl _, fun _ _ _ => rfl⟩ (fun r e => by cases e)
 gi_loopw [3, 4, 12] (fun f kk i wr => ∃ k : Nat, k ≤ cs.length ∧ i = .int .i64 k ∧ f = .int .i64 (pcFrom cs k) ∧ kk = .int .i64 (pcK first cs k) ∧ J (List.range k) wr ∧ KpT n₀ W wr ∧ W.heap.size ≤ wr.heap.size)
  (fun _ _ i _ => cs.length - (intOf i).toNat)
 case atStart => exact ⟨0, Nat.zero_le _, rfl, rfl, rfl, hJd, KpT.below (below_drewN (Below.refl _ _) _) hn₀, Nat.le_refl _⟩
 case round =>
  obtain ⟨k, hk, rfl, rfl, rfl, hJs, hkp, hsz⟩ := hrel
  have hBk := hkp.2 Bt _ _ (Or.inl rfl) hBt
  have hb0 := hBk.cell 0
  have hb2 := hBk.cell 2
  have hbl := hBk.lt
  simp at hb0 hb2
  have hY0 := hY (List.range k) k
  have hP0 : k < cs.length → pcTo cs k = (cs.getD k (0, 0)).1 := fun h => by rw [pcTo, if_pos h]
  have hP1 : ¬ k < cs.length → pcTo cs k = highT := fun h => by rw [pcTo, if_neg h]
  have hS0 : k < cs.length → pcFrom cs (k + 1) = (cs.getD k (0, 0)).1 ∧ pcK first cs (k + 1) = (cs.getD k (0, 0)).2 := fun h => ⟨rfl, rfl⟩
  have hg1 := pcK_range K hk
  obtain ⟨f0, hf0⟩ : ∃ f0, pcFrom cs k = f0 := ⟨_, rfl⟩
  obtain ⟨q, hg0⟩ : ∃ q : Nat, pcK first cs k = (q : Int) := ⟨(pcK first cs k).toNat, by omega⟩
  rw [hg0] at hg1
  rw [hf0, hg0] at hY0
  rw [hf0, hg0]
  have hq : q < ts.length := by omega
  have hq1 : (q : Int) < (ts.length : Int) := by omega
  have hq0 : (0 : Int) ≤ (q : Int) := by omega
  clear hf0 hg0 hg1
  obtain ⟨b1, o1, rfl, hb1, d0, _, _⟩ := ty_at (HT.below hkp.1) hq
  have hoff : offK ts (q : Int) = ts[q].1 := by unfold offK; simp [List.getD, hq]
  rw [hoff] at hY0
  obtain ⟨off, hoffe⟩ : ∃ x, ts[q].1 = x := ⟨_, rfl⟩
  rw [hoffe] at d0 hY0
  have hb1' : b1 < wr.heap.size := by omega
  clear hoff hoffe
  have HJS := Lib.hid hJs
  have HKP := Lib.hid hkp
  clear hJs hkp
  by_cases hlt2 : k < cs.length
  ·obtain ⟨b, o, rfl, hb', c0, c1⟩ := ch_at (HC.below HKP.out.1) hlt2
   have hb'' : b < wr.heap.size := by omega
   have e1 := hP0 hlt2
   obtain ⟨e2, e3⟩ := hS0 hlt2
   rw [getD_ch hlt2] at e1 e2 e3
   obtain ⟨at_, hat⟩ : ∃ x, cs[k].1 = x := ⟨_, rfl⟩
   obtain ⟨ty_, hty⟩ : ∃ x, cs[k].2 = x := ⟨_, rfl⟩
   rw [hat] at c0 e1 e2
   rw [hty] at c1 e3
   rw [e1] at hY0
   have E2 := Lib.hid e2
   have E3 := Lib.hid e3
   clear hat hty e1 e2 e3 hP0 hP1 hS0
   obtain ⟨W1, hW1⟩ : ∃ W1, (wr.alloc (.cells #[.int .i64 at_, .int .i64 ty_] 44)).drew = W1 := ⟨_, rfl⟩
   have kC : Blk W1 wr.heap.size 44 #[.int .i64 at_, .int .i64 ty_] := by rw [← hW1]; exact (Blk.new wr _ _).drew
   have hz1 : wr.heap.size ≤ W1.heap.size := by rw [← hW1]; simp
   have HB1 : Below wr.heap.size wr W1 := by rw [← hW1]; exact ((Below.refl _ _).alloc (Nat.le_refl _) _).drew
   have hY1 := hY0 W1 (hJ _ wr W1 none HJS.out ⟨HB1.os, HB1.tape, HB1.output, HB1.size, fun i hi _ => HB1.block i hi⟩ (fun r e => by cases e)) (by simp; omega)
   have hY2 := hY1.mono (R' := fun e W' => ∃ b, e = .returned (.bool b) ∧ YRes n₀ J Jx (List.range k) k W1 b W') (fun e W' h => by
    rcases h with ⟨h1, h2, h3⟩ | ⟨h1, h2⟩
    ·exact ⟨true, h1, Or.inl ⟨rfl, h2, h3⟩⟩
    ·exact ⟨false, h1, Or.inr ⟨rfl, h2⟩⟩)
   obtain ⟨fn, tmps, assign, body, hy, hR⟩ := hY2
   rw [← hW1] at hy hR
   have HW := Lib.hid hW1
   have HRn := Lib.hid hz1
   clear hW1 hY1 hY0 hz1
   gi_wp2
   gi_region_with_o (refine hR.mono ?_; rintro e W3 ⟨bb, rfl, hres⟩)
   all_goals
    rw [HW.out] at hres
    cases bb with
    | true =>
     obtain ⟨_, hJ3, hkp3⟩ | ⟨h, _⟩ := hres
     ·have k3 := hkp3.2 _ _ _ (Or.inr rfl) kC
      have q0 := k3.cell 0
      have q1 := k3.cell 1
      simp at q0 q1
      have HKP3 := Lib.hid hkp3
      have HJ3 := Lib.hid hJ3
      clear hkp3 hJ3 k3
      gi_wp2
      gi_quiet (fail)
      gi_wp2
      go_roundw
      case rel => exact ⟨k + 1, by omega, by go_num, by rw [E2.out], by rw [E3.out], by rw [List.range_succ]; exact hJ (List.range k ++ [k]) _ _ none HJ3.out ⟨rfl, rfl, rfl, Nat.le_refl _, fun _ _ _ => rfl⟩ (fun r e => by cases e), (HKP.out.trans (KpT.below HB1 (by omega))).trans (HKP3.out.trans (KpT.below (below_drewN (Below.refl _ _) _) (by have := HKP3.out.1.size; have := HRn.out; omega))), by have := HKP3.out.1.size; have := HRn.out; simp; omega⟩
      case measure => simp [intOf]; omega
     ·cases h
    | false =>
     obtain ⟨h, _⟩ | ⟨_, hx⟩ := hres
     ·cases h
     ·gi_wp2
      refine bodyPost_ret (results_none rfl _ _ _) rfl ?_
      exact ⟨⟨_, rfl⟩, .inr ⟨_, ⟨k + 1, by omega, (List.range_succ).symm⟩, hx⟩⟩
  ·obtain rfl : k = cs.length := by omega
   have e1 := hP1 hlt2
   rw [e1, highT] at hY0
   clear e1 hP0 hP1 hS0
   have hY1 := hY0 wr HJS.out (by simp)
   have hY2 := hY1.mono (R' := fun e W' => ∃ b, e = .returned (.bool b) ∧ YRes n₀ J Jx (List.range cs.length) cs.length wr b W') (fun e W' h => by
    rcases h with ⟨h1, h2, h3⟩ | ⟨h1, h2⟩
    ·exact ⟨true, h1, Or.inl ⟨rfl, h2, h3⟩⟩
    ·exact ⟨false, h1, Or.inr ⟨rfl, h2⟩⟩)
   obtain ⟨fn, tmps, assign, body, hy, hR⟩ := hY2
   clear hY1 hY0
   gi_wp2
   refine hR.mono ?_
   rintro e W3 ⟨bb, rfl, hres⟩
   gi_wp2
   go_end0
   obtain ⟨_, hJ3, hkp3⟩ | ⟨_, hx⟩ := hres
   ·exact ⟨⟨_, rfl⟩, .inl ⟨_, rfl, by rw [List.range_succ]; exact hJ3⟩⟩
   ·exact ⟨⟨_, rfl⟩, .inr ⟨_, ⟨_, Nat.le_refl _, rfl⟩, by rw [List.range_succ]; exact hx⟩⟩
theorem pieces_in (n : Nat) (v1 v2 v3 : Value) (w : World) :
  CallsIn Fence.wide n Tryz.prog 39 #[.agg #[v1, v2, v3]] w fun e w' => e = .returned (.func (.func 72) #[] #[.pointer (some ⟨w.heap.size, 0, none⟩)]) ∧ w' = w.alloc (.cells #[v1, v2, v3] 37) := by
 refine callsIn_of_wp Tryz.func39 rfl trivial ?_ rfl
 simp only [Tryz.ntmps39, List.size_toArray, List.length_cons, List.length_nil, Nat.reduceAdd, Nat.reduceSub, Array.replicate_succ, Array.replicate_zero, List.push_toArray, List.append_toArray, List.nil_append, List.cons_append]
 gi_wp2
 go_ret
 exact ⟨rfl, rfl⟩
theorem pieces_stops (n : Nat) (hn : 1 ≤ n) (Bt n₀ : Nat) (A C : Option Addr) (capT capC : Nat) (ts : List Ty) (first : Int) (cs : List Ch) (w0 w : World) (K : TabOk ts first cs) (H : TabAt w0 A C capT capC ts cs) (hB : Below w0.heap.size w0 w)
  (hBt : Blk w Bt 37 #[.slice A ts.length capT, .int .i64 first, .slice C cs.length capC]) (hn₀ : n₀ = w0.heap.size) :
  SeqStopsK Fence.wide n Tryz.prog 72 #[.pointer (some ⟨Bt, 0, none⟩)] (fun x : Nat => #[.agg #[.int .i64 (pcFrom cs x), .int .i64 (pcTo cs x)], .int .i64 (offK ts (pcK first cs x))]) (KpT n₀) (fun ys => ys = List.range (cs.length + 1)) (fun pre => ∃ k, k ≤ cs.length + 1 ∧ pre = List.range k) (cs.length + 1) w := fun l J Jx W hW hJ _ hY h0 => by
 subst hn₀
 have hB2 := hB.trans (hW.mono hB.size)
 exact pieces1_in n hn l Bt w0.heap.size A C capT capC ts first cs K H.cT H.mT H.cC H.mC J Jx hY W hJ (hBt.step hW) hB2.size (H.T.below hB2) (H.C.below hB2) h0
end Go.Proofs.YthppifcggmdmoaaGreatDoor

namespace Go.Proofs.YthppifcggmdmoaaGreatDoor
open Go.RowKit
set_option linter.unusedVariables false
theorem field_off (o : Int) (b : Bool) (s : ByteArray) (w : World) : (Instr.field 56 (.agg #[.int .i64 o, .bool b, .string s]) 0).run Tryz.prog w = .ok (.int .i64 o) w := by kernel_rfl
def timedE (ts : List Ty) (first : Int) (cs : List Ch) (time : Int) : Int := if tabE ts first cs = 0 then if -1099511627776 ≤ time ∧ time ≤ 1099511627776 then 0 else 1 else tabE ts first cs
theorem timedE_bad {ts : List Ty} {first : Int} {cs : List Ch} {time : Int} (h : ¬ tabE ts first cs = 0) : timedE ts first cs time = tabE ts first cs := by rw [timedE, if_neg h]
theorem timedE_out {ts : List Ty} {first : Int} {cs : List Ch} {time : Int} (h : tabE ts first cs = 0) (h2 : ¬ (-1099511627776 ≤ time ∧ time ≤ 1099511627776)) : timedE ts first cs time = 1 := by rw [timedE, if_pos h, if_neg h2]
theorem timedE_ok {ts : List Ty} {first : Int} {cs : List Ch} {time : Int} (h : tabE ts first cs = 0) (h2 : -1099511627776 ≤ time ∧ time ≤ 1099511627776) : timedE ts first cs time = 0 := by rw [timedE, if_pos h, if_pos h2]
set_option maxRecDepth 100000 in
set_option maxHeartbeats 2000000 in
theorem w_check (A C : Option Addr) (capT capC : Nat) (ts : List Ty) (first : Int) (cs : List Ch) (time : Int) (w : World) (H : TabAt w A C capT capC ts cs) :
  Calls Tryz.prog 38 #[.agg #[.slice A ts.length capT, .int .i64 first, .slice C cs.length capC], .int .i64 time] w
   fun e w' => e = .returned (.int .i64 (timedE ts first cs time)) ∧ Below w.heap.size w w' := by
 have hb0 : Below w.heap.size w (w.alloc (.cells #[.slice A ts.length capT, .int .i64 first, .slice C cs.length capC] 37)) := (by repeat (first | exact Below.refl _ _ | assumption | apply Below.drew | apply below_drewN | (refine Below.alloc ?_ (by simp; try omega) _) | (refine Below.setCell ?_ (by simp; try omega) _)))
 by_cases h0 : tabE ts first cs = 0
 ·by_cases h1 : -1099511627776 ≤ time ∧ time ≤ 1099511627776
  ·have HE := Lib.hid (timedE_ok h0 h1)
   obtain ⟨t1, t2⟩ := h1
   go_enter Tryz.func38, Tryz.ntmps38
   go_wp2_with fail
   refine (t_Check A C capT capC ts first cs _ (H.below hb0)).mono ?_
   rintro e w1 ⟨rfl, hb⟩
   rw [h0]
   clear h0
   go_wp2_with fail
   go_ret
   exact ⟨ret_int HE.out.symm, hb0.trans (hb.mono hb0.size)⟩
  ·have HE := Lib.hid (timedE_out h0 h1)
   have t2 : time < -1099511627776 ∨ (-1099511627776 ≤ time ∧ 1099511627776 < time) := by omega
   clear h1
   rcases t2 with t2 | ⟨t2, t3⟩
   all_goals
    go_enter Tryz.func38, Tryz.ntmps38
    go_wp2_with fail
    refine (t_Check A C capT capC ts first cs _ (H.below hb0)).mono ?_
    rintro e w1 ⟨rfl, hb⟩
    rw [h0]
    go_wp2_with fail
    go_ret
    exact ⟨ret_int HE.out.symm, hb0.trans (hb.mono hb0.size)⟩
 ·have HE := Lib.hid (timedE_bad (time := time) h0)
  have h2 : (tabE ts first cs == 0) = false := by rw [beq_eq_false_iff_ne]; exact h0
  clear h0
  go_enter Tryz.func38, Tryz.ntmps38
  go_wp2_with fail
  refine (t_Check A C capT capC ts first cs _ (H.below hb0)).mono ?_
  rintro e w1 ⟨rfl, hb⟩
  go_wp2_with fail
  go_ret
  exact ⟨ret_int HE.out.symm, hb0.trans (hb.mono hb0.size)⟩
def localV (ts : List Ty) (first : Int) (cs : List Ch) (time : Int) : Int := if timedE ts first cs time = 0 then time + (tabOf ts first cs time).1 else 0
theorem localV_ok {ts : List Ty} {first : Int} {cs : List Ch} {time : Int} (h : timedE ts first cs time = 0) : localV ts first cs time = time + (tabOf ts first cs time).1 := by rw [localV, if_pos h]
theorem localV_no {ts : List Ty} {first : Int} {cs : List Ch} {time : Int} (h : ¬ timedE ts first cs time = 0) : localV ts first cs time = 0 := by rw [localV, if_neg h]
theorem timed_parts {ts : List Ty} {first : Int} {cs : List Ch} {time : Int} (h0 : timedE ts first cs time = 0) : tabE ts first cs = 0 ∧ (-1099511627776 ≤ time ∧ time ≤ 1099511627776) := by
 by_cases h1 : tabE ts first cs = 0
 ·by_cases h2 : -1099511627776 ≤ time ∧ time ≤ 1099511627776
  ·exact ⟨h1, h2⟩
  ·rw [timedE_out h1 h2] at h0; omega
 ·rw [timedE_bad h1] at h0; exact absurd h0 h1
theorem tabOf_mem {ts : List Ty} {first : Int} {cs : List Ch} (time : Int) (hK : TabOk ts first cs) : tabOf ts first cs time ∈ ts := by
 have hr := tyIx_range time hK
 have hn : (tyIx first cs time).toNat < ts.length := by omega
 have e : tabOf ts first cs time = ts[(tyIx first cs time).toNat] := by rw [tabOf]; simp [List.getD, hn]
 rw [e]; exact List.getElem_mem hn
set_option maxRecDepth 100000 in
set_option maxHeartbeats 2000000 in
theorem w_Local (A C : Option Addr) (capT capC : Nat) (ts : List Ty) (first : Int) (cs : List Ch) (time : Int) (w : World) (H : TabAt w A C capT capC ts cs) :
  Calls Tryz.prog 16 #[.agg #[.slice A ts.length capT, .int .i64 first, .slice C cs.length capC], .int .i64 time] w
   fun e w' => e = .returned (.tuple #[.int .i64 (localV ts first cs time), .int .i64 (timedE ts first cs time)]) ∧ Below w.heap.size w w' := by
 have hb0 : Below w.heap.size w (w.alloc (.cells #[.slice A ts.length capT, .int .i64 first, .slice C cs.length capC] 37)) := (by repeat (first | exact Below.refl _ _ | assumption | apply Below.drew | apply below_drewN | (refine Below.alloc ?_ (by simp; try omega) _) | (refine Below.setCell ?_ (by simp; try omega) _)))
 have X1 := Lib.hid (Bx.new w #[.slice A ts.length capT, .int .i64 first, .slice C cs.length capC] 37)
 have hfo := field_off
 by_cases h0 : timedE ts first cs time = 0
 ·obtain ⟨h1, t1, t2⟩ := timed_parts h0
  have hK := tabOk h1
  have ho : -75600 ≤ (tabOf ts first cs time).1 ∧ (tabOf ts first cs time).1 ≤ 75600 := ⟨(hK.types _ (tabOf_mem time hK)).1, (hK.types _ (tabOf_mem time hK)).2.1⟩
  obtain ⟨o1, o2⟩ := ho
  have HK := Lib.hid hK
  clear hK h1
  go_enter Tryz.func16, Tryz.ntmps16
  go_wp2_with fail
  refine (w_check A C capT capC ts first cs time _ (H.below hb0)).mono ?_
  rintro e w1 ⟨rfl, hb⟩
  have x1 := X1.out.step hb
  have hb1 := hb0.trans (hb.mono hb0.size)
  have hcs := x1.1
  rw [h0]
  have H0 := Lib.hid h0
  clear hb X1 h0
  go_wp2_with fail
  refine (t_Of A C capT capC ts first cs time _ (H.below hb1) HK.out).mono ?_
  rintro e w2 ⟨rfl, hb2⟩
  go_wp2_with fail
  go_ret2
  exact ⟨ret_ii (localV_ok H0.out).symm H0.out.symm, hb1.trans (hb2.mono hb1.size)⟩
 ·have h2 : (timedE ts first cs time != 0) = true := by rw [bne_iff_ne]; exact h0
  have H0 := Lib.hid h0
  clear h0
  go_enter Tryz.func16, Tryz.ntmps16
  go_wp2_with fail
  refine (w_check A C capT capC ts first cs time _ (H.below hb0)).mono ?_
  rintro e w1 ⟨rfl, hb⟩
  go_wp2_with fail
  go_ret2
  exact ⟨ret_ii (localV_no H0.out).symm rfl, hb0.trans (hb.mono hb0.size)⟩
end Go.Proofs.YthppifcggmdmoaaGreatDoor

namespace Go.Proofs.YthppifcggmdmoaaGreatDoor
open Go.RowKit
set_option linter.unusedVariables false
attribute [local go_sem ↓] Go.wp_at_zero Go.wp_at_succ
end Go.Proofs.YthppifcggmdmoaaGreatDoor

namespace Go.Proofs.YthppifcggmdmoaaGreatDoor
open Go.RowKit
set_option linter.unusedVariables false
attribute [local go_sem ↓] Go.wp_at_zero Go.wp_at_succ
end Go.Proofs.YthppifcggmdmoaaGreatDoor

