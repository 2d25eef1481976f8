/- Part 41 of the proof of TopLater: no condition; what its declarations say stands at each. -/
import Derived.Test.YthppifcggmdmoaaGreatDoorK34
import Derived.Test.YthppifcggmdmoaaGreatDoorK04
import Derived.Test.YthppifcggmdmoaaGreatDoorK30
import Derived.Test.YthppifcggmdmoaaGreatDoorK36
import Derived.Deep.Cut
import Derived.Test.YthppifcggmdmoaaGreatDoorK37
import Derived.Test.YthppifcggmdmoaaGreatDoorK40
import Derived.Maps.AppendAt
import Derived.Deep.Onto
import Derived.Test.YthppifcggmdmoaaGreatDoorK39
import Derived.Test.YthppifcggmdmoaaGreatDoorK18
namespace Go.Proofs.YthppifcggmdmoaaGreatDoor
open Go.RowKit
set_option linter.unusedVariables false
def timedE (ts : List Ty) (first : Int) (cs : List Ch) (time : Int) : Int := if tabE ts first cs = 0 then if -1099511627776 ≤ time ∧ time ≤ 1099511627776 then 0 else 1 else tabE ts first cs
theorem timedE_bad {ts : List Ty} {first : Int} {cs : List Ch} {time : Int} (h : ¬ tabE ts first cs = 0) : timedE ts first cs time = tabE ts first cs := by rw [timedE, if_neg h]
theorem timedE_out {ts : List Ty} {first : Int} {cs : List Ch} {time : Int} (h : tabE ts first cs = 0) (h2 : ¬ (-1099511627776 ≤ time ∧ time ≤ 1099511627776)) : timedE ts first cs time = 1 := by rw [timedE, if_pos h, if_neg h2]
theorem timedE_ok {ts : List Ty} {first : Int} {cs : List Ch} {time : Int} (h : tabE ts first cs = 0) (h2 : -1099511627776 ≤ time ∧ time ≤ 1099511627776) : timedE ts first cs time = 0 := by rw [timedE, if_pos h, if_pos h2]
set_option maxRecDepth 100000 in
set_option maxHeartbeats 2000000 in
theorem w_check (A C : Option Addr) (capT capC : Nat) (ts : List Ty) (first : Int) (cs : List Ch) (time : Int) (w : World) (H : TabAt w A C capT capC ts cs) :
  Calls Tryz.prog 38 #[.agg #[.slice A ts.length capT, .int .i64 first, .slice C cs.length capC], .int .i64 time] w
   fun e w' => e = .returned (.int .i64 (timedE ts first cs time)) ∧ Below w.heap.size w w' := by
 have hb0 : Below w.heap.size w (w.alloc (.cells #[.slice A ts.length capT, .int .i64 first, .slice C cs.length capC] 37)) := (by repeat (first | exact Below.refl _ _ | assumption | apply Below.drew | apply below_drewN | (refine Below.alloc ?_ (by simp; try omega) _) | (refine Below.setCell ?_ (by simp; try omega) _)))
 by_cases h0 : tabE ts first cs = 0
 ·by_cases h1 : -1099511627776 ≤ time ∧ time ≤ 1099511627776
  ·have HE := Lib.hid (timedE_ok h0 h1)
   obtain ⟨t1, t2⟩ := h1
   go_enter Tryz.func38, Tryz.ntmps38
   go_wp2_with fail
   refine (t_Check A C capT capC ts first cs _ (H.below hb0)).mono ?_
   rintro e w1 ⟨rfl, hb⟩
   rw [h0]
   clear h0
   go_wp2_with fail
   go_ret
   exact ⟨ret_int HE.out.symm, hb0.trans (hb.mono hb0.size)⟩
  ·have HE := Lib.hid (timedE_out h0 h1)
   have t2 : time < -1099511627776 ∨ (-1099511627776 ≤ time ∧ 1099511627776 < time) := by omega
   clear h1
   rcases t2 with t2 | ⟨t2, t3⟩
   all_goals
    go_enter Tryz.func38, Tryz.ntmps38
    go_wp2_with fail
    refine (t_Check A C capT capC ts first cs _ (H.below hb0)).mono ?_
    rintro e w1 ⟨rfl, hb⟩
    rw [h0]
    go_wp2_with fail
    go_ret
    exact ⟨ret_int HE.out.symm, hb0.trans (hb.mono hb0.size)⟩
 ·have HE := Lib.hid (timedE_bad (time := time) h0)
  have h2 : (tabE ts first cs == 0) = false := by rw [beq_eq_false_iff_ne]; exact h0
  clear h0
  go_enter Tryz.func38, Tryz.ntmps38
  go_wp2_with fail
  refine (t_Check A C capT capC ts first cs _ (H.below hb0)).mono ?_
  rintro e w1 ⟨rfl, hb⟩
  go_wp2_with fail
  go_ret
  exact ⟨ret_int HE.out.symm, hb0.trans (hb.mono hb0.size)⟩
theorem timed_parts {ts : List Ty} {first : Int} {cs : List Ch} {time : Int} (h0 : timedE ts first cs time = 0) : tabE ts first cs = 0 ∧ (-1099511627776 ≤ time ∧ time ≤ 1099511627776) := by
 by_cases h1 : tabE ts first cs = 0
 ·by_cases h2 : -1099511627776 ≤ time ∧ time ≤ 1099511627776
  ·exact ⟨h1, h2⟩
  ·rw [timedE_out h1 h2] at h0; omega
 ·rw [timedE_bad h1] at h0; exact absurd h0 h1
end Go.Proofs.YthppifcggmdmoaaGreatDoor

namespace Go.Proofs.YthppifcggmdmoaaGreatDoor
open Go.RowKit
set_option linter.unusedVariables false
attribute [local go_sem ↓] Go.wp_at_zero Go.wp_at_succ
end Go.Proofs.YthppifcggmdmoaaGreatDoor

namespace Go.Proofs.YthppifcggmdmoaaGreatDoor
open Go.RowKit
set_option linter.unusedVariables false
attribute [local go_sem ↓] Go.wp_at_zero Go.wp_at_succ
end Go.Proofs.YthppifcggmdmoaaGreatDoor

namespace Go.Proofs.YthppifcggmdmoaaGreatDoor
open Go.RowKit Go.Shelf
set_option linter.unusedVariables false
attribute [local go_sem] Oper.semAt_some
theorem blk_own {β : Type} (B : Nat) (t : TypeId) (f : β → Array Value) : Own (fun s W => Blk W B t (f s)) := fun s X Y row hs hg hrow =>
 hs.grown hg (fun e' => by obtain ⟨o, ho, hc⟩ := hrow B e'; rw [show X.heap[B]? = _ from hs] at ho; cases ho; cases hc)
theorem KpT.stored {W : World} {n₀ B : Nat} {t : TypeId} {v v' : Value} (hv : Boxed W B t v) (h1 : t ≠ 37) (h2 : t ≠ 44) (hB : n₀ ≤ B) : KpT n₀ W (W.setCell ⟨B, 0, none⟩ v') := by
 refine ⟨(Below.refl _ _).setCell (p := ⟨B, 0, none⟩) hB v', fun g t' cs ht hg => ?_⟩
 have htt : t' ≠ t := by rcases ht with rfl | rfl <;> first | exact h1.symm | exact h2.symm
 exact hg.far (a := ⟨B, 0, none⟩) (Blk.ne hg (show Blk W B t #[v] from hv) htt) v'
theorem pc_any {ts : List Ty} {first : Int} {cs : List Ch} (h : TabOk ts first cs) (j : Nat) : (-4611686018427387904 ≤ pcFrom cs j ∧ pcFrom cs j ≤ 1099511627776) ∧ (-1099511627776 ≤ pcTo cs j ∧ pcTo cs j ≤ 4611686018427387903) ∧ (-75600 ≤ offK ts (pcK first cs j) ∧ offK ts (pcK first cs j) ≤ 75600) := by
 refine ⟨?_, pcTo_range h j, ?_⟩
 ·by_cases hj : j ≤ cs.length
  ·exact pcFrom_range h hj
  ·unfold pcFrom
   rw [if_neg (by omega), show cs.getD (j - 1) (0, 0) = (0, 0) by rw [List.getD_eq_getElem?_getD, List.getElem?_eq_none (by omega)]; rfl]; simp
 ·by_cases hj : j ≤ cs.length
  ·have := pcK_range h hj; exact offK_range h this.1 this.2
  ·have e : pcK first cs j = 0 := by
    unfold pcK
    rw [if_neg (by omega), show cs.getD (j - 1) (0, 0) = (0, 0) by rw [List.getD_eq_getElem?_getD, List.getElem?_eq_none (by omega)]; rfl]
   rw [e]; have := h.tpos; exact offK_range h (Int.le_refl _) (by omega)
end Go.Proofs.YthppifcggmdmoaaGreatDoor

namespace Go.Proofs.YthppifcggmdmoaaGreatDoor
set_option linter.unusedVariables false
def nxF (after : Int) (p : Pc) : Int := max p.1 (after + 1)
def nxW (after second : Int) (p : Pc) : Int := (second - (nxF after p + p.2.2) % 86400) % 86400
def nxP (after second : Int) (p : Pc) : Option Int := if nxF after p < p.2.1 ∧ nxF after p + nxW after second p < p.2.1 then some (nxF after p + nxW after second p) else none
theorem nxP_some {after second : Int} {p : Pc} {r : Int} (h : nxP after second p = some r) (h1 : 0 ≤ second) (h2 : second < 86400) :
  p.1 ≤ r ∧ r < p.2.1 ∧ after < r ∧ (r + p.2.2) % 86400 = second ∧ ∀ t, p.1 ≤ t → after < t → (t + p.2.2) % 86400 = second → r ≤ t := by
 unfold nxP at h
 split at h
 ·rename_i hc
  simp only [Option.some.injEq] at h
  have hw : nxW after second p = (second - (nxF after p + p.2.2) % 86400) % 86400 := rfl
  have hf : nxF after p = max p.1 (after + 1) := rfl
  generalize nxW after second p = wt at *
  generalize nxF after p = f at *
  have hf1 : p.1 ≤ f := by omega
  have hf2 : after + 1 ≤ f := by omega
  refine ⟨by omega, by omega, by omega, by omega, fun t t1 t2 t3 => ?_⟩
  have : f ≤ t := by omega
  omega
 ·cases h
theorem nxP_none {after second : Int} {p : Pc} (h : nxP after second p = none) (h1 : 0 ≤ second) (h2 : second < 86400) (t : Int) (t1 : p.1 ≤ t) (t2 : t < p.2.1) (t3 : after < t) : ¬ (t + p.2.2) % 86400 = second := by
 unfold nxP at h
 split at h
 ·cases h
 ·rename_i hc
  intro e
  have hw : nxW after second p = (second - (nxF after p + p.2.2) % 86400) % 86400 := rfl
  have hf : nxF after p = max p.1 (after + 1) := rfl
  generalize nxW after second p = wt at *
  generalize nxF after p = f at *
  have : f ≤ t := by omega
  apply hc
  constructor <;> omega
structure NxLeast (ts : List Ty) (first : Int) (cs : List Ch) (after second r : Int) : Prop where
 gt : after < r
 hi : r ≤ 1099511714200
 at_ : (r + offT ts first cs r) % 86400 = second
 least : ∀ t, after < t → t < highT → (t + offT ts first cs t) % 86400 = second → r ≤ t
theorem nx_last {ts : List Ty} {first : Int} {cs : List Ch} (h : TabOk ts first cs) {after second : Int} (a1 : -1099511627776 ≤ after) (a2 : after ≤ 1099511627776) (h1 : 0 ≤ second) (h2 : second < 86400) :
  ∃ r, nxP after second (pcAt ts first cs cs.length) = some r ∧ r ≤ 1099511714200 := by
 have r1 := pcFrom_range h (Nat.le_refl cs.length)
 have e : pcTo cs cs.length = 4611686018427387903 := pcTo_last
 unfold nxP
 have hw : nxW after second (pcAt ts first cs cs.length) = (second - (nxF after (pcAt ts first cs cs.length) + (pcAt ts first cs cs.length).2.2) % 86400) % 86400 := rfl
 have hf : nxF after (pcAt ts first cs cs.length) = max (pcFrom cs cs.length) (after + 1) := rfl
 have ht : (pcAt ts first cs cs.length).2.1 = 4611686018427387903 := e
 generalize nxW after second (pcAt ts first cs cs.length) = wt at *
 generalize nxF after (pcAt ts first cs cs.length) = f at *
 rw [ht, if_pos ⟨by omega, by omega⟩]
 exact ⟨_, rfl, by omega⟩
theorem nx_stop {ts : List Ty} {first : Int} {cs : List Ch} (h : TabOk ts first cs) {after second : Int} (a1 : -1099511627776 ≤ after) (a2 : after ≤ 1099511627776) (h1 : 0 ≤ second) (h2 : second < 86400)
  {j : Nat} (hj : j ≤ cs.length) {r : Int} (hn : ∀ i, i < j → nxP after second (pcAt ts first cs i) = none) (hs : nxP after second (pcAt ts first cs j) = some r) : NxLeast ts first cs after second r := by
 have key : ∀ {k : Nat} {q : Int}, k ≤ cs.length → nxP after second (pcAt ts first cs k) = some q → after < q ∧ q < highT ∧ (q + offT ts first cs q) % 86400 = second := by
  intro k q hk hq
  obtain ⟨s1, s2, s3, s4, _⟩ := nxP_some hq h1 h2
  simp only [pcAt] at s1 s2 s4
  rw [offT_pc h hk s1 s2]
  have := pcTo_range h k
  exact ⟨s3, by omega, s4⟩
 have least : ∀ t, after < t → t < highT → (t + offT ts first cs t) % 86400 = second → r ≤ t := by
  intro t t1 t2 t3
  obtain ⟨i, hi, i1, i2⟩ := pc_ex h (show lowT ≤ t by unfold lowT; omega) t2
  rw [offT_pc h hi i1 i2] at t3
  obtain ⟨s1, s2, s3, s4, s5⟩ := nxP_some hs h1 h2
  rcases Nat.lt_trichotomy i j with hij | hij | hij
  ·exact absurd t3 (nxP_none (hn i hij) h1 h2 t i1 i2 t1)
  ·subst hij; exact s5 t i1 t1 t3
  ·have := pc_le h hi hij
   simp only [pcAt] at s2
   omega
 obtain ⟨k1, k2, k3⟩ := key hj hs
 obtain ⟨q, hq, hq2⟩ := nx_last h a1 a2 h1 h2
 obtain ⟨q1, q2, q3⟩ := key (Nat.le_refl _) hq
 have := least q q1 q2 q3
 exact ⟨k1, by omega, k3, least⟩
end Go.Proofs.YthppifcggmdmoaaGreatDoor

namespace Go.Proofs.YthppifcggmdmoaaGreatDoor
open Go.RowKit
set_option linter.unusedVariables false
set_option maxHeartbeats 1000000 in
theorem fl_Floor (t : Int) (h1 : -9223372036854775808 ≤ t) (h2 : t ≤ 9223372036854775807) (w : World) :
  Calls Tryz.prog 40 #[.int .i64 t, .int .i64 86400] w fun e w' => e = .returned (.tuple #[.int .i64 (t / 86400), .int .i64 (t % 86400)]) ∧ Below w.heap.size w w' := by
 have hB : Below w.heap.size w w := Below.refl _ _
 obtain ⟨q0, t1, t2, t3, t4, t5⟩ := tmod_fact' t 86400 (by omega)
 obtain ⟨r, hr⟩ : ∃ r, t.tmod 86400 = r := ⟨_, rfl⟩
 obtain ⟨q, hq⟩ : ∃ q, t.tdiv 86400 = q := ⟨_, rfl⟩
 have t6 := Int.mul_tdiv_add_tmod t 86400
 rw [hr] at t1 t2 t3 t4 t5 t6
 rw [hq] at t6
 have hq1 : -200000000000000 ≤ q ∧ q ≤ 200000000000000 := by omega
 obtain ⟨hq1, hq2⟩ := hq1
 by_cases hc : r < 0
 ·have HV : Hid (t / 86400 = q - 1 ∧ t % 86400 = r + 86400) := Lib.hid (by omega)
  rw [HV.out.1, HV.out.2]
  clear HV t1 t4 t5 t6
  go_enter Tryz.func40, Tryz.ntmps40
  go_wp2_with fail
  go_quiet (fail)
  go_wp2_with fail
  go_ret2
  exact ⟨rfl, below_drewN hB _⟩
 ·have HV : Hid (t / 86400 = q ∧ t % 86400 = r) := Lib.hid (by omega)
  rw [HV.out.1, HV.out.2]
  clear HV t1 t4 t5 t6
  go_enter Tryz.func40, Tryz.ntmps40
  go_wp2_with fail
  go_quiet (fail)
  go_wp2_with fail
  go_ret2
  exact ⟨rfl, below_drewN hB _⟩
end Go.Proofs.YthppifcggmdmoaaGreatDoor

