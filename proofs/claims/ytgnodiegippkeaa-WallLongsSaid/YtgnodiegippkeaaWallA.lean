/- Walks of wall.check and wall.Local, and of the law's timed. -/
import Derived.Test.YtgnodiegippkeaaTabOfR
import Derived.Test.YtgnodiegippkeaaTabR
namespace Go.Proofs.Ytgnodiegippkeaa
open Go.RowKit
set_option linter.unusedVariables false
theorem field_off (o : Int) (b : Bool) (s : ByteArray) (w : World) : (Instr.field 77 (.agg #[.int .i64 o, .bool b, .string s]) 0).run Try.prog w = .ok (.int .i64 o) w := by kernel_rfl
/-- the errors of a table and a time -/
def timedE (ts : List Ty) (first : Int) (cs : List Ch) (time : Int) : Int := if tabE ts first cs = 0 then if -1099511627776 ≤ time ∧ time ≤ 1099511627776 then 0 else 1 else tabE ts first cs
theorem timedE_bad {ts : List Ty} {first : Int} {cs : List Ch} {time : Int} (h : ¬ tabE ts first cs = 0) : timedE ts first cs time = tabE ts first cs := by rw [timedE, if_neg h]
theorem timedE_out {ts : List Ty} {first : Int} {cs : List Ch} {time : Int} (h : tabE ts first cs = 0) (h2 : ¬ (-1099511627776 ≤ time ∧ time ≤ 1099511627776)) : timedE ts first cs time = 1 := by rw [timedE, if_pos h, if_neg h2]
theorem timedE_ok {ts : List Ty} {first : Int} {cs : List Ch} {time : Int} (h : tabE ts first cs = 0) (h2 : -1099511627776 ≤ time ∧ time ≤ 1099511627776) : timedE ts first cs time = 0 := by rw [timedE, if_pos h, if_pos h2]
set_option maxRecDepth 100000 in
set_option maxHeartbeats 2000000 in
theorem w_check (A C : Option Addr) (capT capC : Nat) (ts : List Ty) (first : Int) (cs : List Ch) (time : Int) (w : World) (H : TabAt w A C capT capC ts cs) :
    Calls Try.prog 39 #[.agg #[.slice A ts.length capT, .int .i64 first, .slice C cs.length capC], .int .i64 time] w
      fun e w' => e = .returned (.int .i64 (timedE ts first cs time)) ∧ Below w.heap.size w w' := by
  have hb0 : Below w.heap.size w (w.alloc (.cells #[.slice A ts.length capT, .int .i64 first, .slice C cs.length capC] 25)) := (by repeat (first | exact Below.refl _ _ | assumption | apply Below.drew | apply below_drewN | (refine Below.alloc ?_ (by simp; try omega) _) | (refine Below.setCell ?_ (by simp; try omega) _)))
  by_cases h0 : tabE ts first cs = 0
  · by_cases h1 : -1099511627776 ≤ time ∧ time ≤ 1099511627776
    · have HE := Lib.hid (timedE_ok h0 h1)
      obtain ⟨t1, t2⟩ := h1
      go_enter Try.func39, Try.ntmps39
      go_wp2_with fail
      refine (t_Check A C capT capC ts first cs _ (H.below hb0)).mono ?_
      rintro e w1 ⟨rfl, hb⟩
      rw [h0]
      clear h0
      go_wp2_with fail
      go_ret
      exact ⟨ret_int HE.out.symm, hb0.trans (hb.mono hb0.size)⟩
    · have HE := Lib.hid (timedE_out h0 h1)
      have t2 : time < -1099511627776 ∨ (-1099511627776 ≤ time ∧ 1099511627776 < time) := by omega
      clear h1
      rcases t2 with t2 | ⟨t2, t3⟩
      all_goals
        go_enter Try.func39, Try.ntmps39
        go_wp2_with fail
        refine (t_Check A C capT capC ts first cs _ (H.below hb0)).mono ?_
        rintro e w1 ⟨rfl, hb⟩
        rw [h0]
        go_wp2_with fail
        go_ret
        exact ⟨ret_int HE.out.symm, hb0.trans (hb.mono hb0.size)⟩
  · have HE := Lib.hid (timedE_bad (time := time) h0)
    have h2 : (tabE ts first cs == 0) = false := by rw [beq_eq_false_iff_ne]; exact h0
    clear h0
    go_enter Try.func39, Try.ntmps39
    go_wp2_with fail
    refine (t_Check A C capT capC ts first cs _ (H.below hb0)).mono ?_
    rintro e w1 ⟨rfl, hb⟩
    go_wp2_with fail
    go_ret
    exact ⟨ret_int HE.out.symm, hb0.trans (hb.mono hb0.size)⟩
set_option maxRecDepth 100000 in
set_option maxHeartbeats 2000000 in
theorem l_timed (A C : Option Addr) (capT capC : Nat) (ts : List Ty) (first : Int) (cs : List Ch) (time : Int) (w : World) (H : TabAt w A C capT capC ts cs) :
    Calls Try.prog 14 #[.agg #[.slice A ts.length capT, .int .i64 first, .slice C cs.length capC], .int .i64 time] w
      fun e w' => e = .returned (.int .i64 (timedE ts first cs time)) ∧ Below w.heap.size w w' := by
  have hb0 : Below w.heap.size w (w.alloc (.cells #[.slice A ts.length capT, .int .i64 first, .slice C cs.length capC] 25)) := (by repeat (first | exact Below.refl _ _ | assumption | apply Below.drew | apply below_drewN | (refine Below.alloc ?_ (by simp; try omega) _) | (refine Below.setCell ?_ (by simp; try omega) _)))
  by_cases h0 : tabE ts first cs = 0
  · by_cases h1 : -1099511627776 ≤ time ∧ time ≤ 1099511627776
    · have HE := Lib.hid (timedE_ok h0 h1)
      obtain ⟨t1, t2⟩ := h1
      go_enter Try.func14, Try.ntmps14
      go_wp2_with fail
      refine (r_TableCheck A C capT capC ts first cs _ (H.below hb0)).mono ?_
      rintro e w1 ⟨rfl, hb⟩
      rw [h0]
      clear h0
      go_wp2_with fail
      go_ret
      exact ⟨ret_int HE.out.symm, hb0.trans (hb.mono hb0.size)⟩
    · have HE := Lib.hid (timedE_out h0 h1)
      have t2 : time < -1099511627776 ∨ (-1099511627776 ≤ time ∧ 1099511627776 < time) := by omega
      clear h1
      rcases t2 with t2 | ⟨t2, t3⟩
      all_goals
        go_enter Try.func14, Try.ntmps14
        go_wp2_with fail
        refine (r_TableCheck A C capT capC ts first cs _ (H.below hb0)).mono ?_
        rintro e w1 ⟨rfl, hb⟩
        rw [h0]
        go_wp2_with fail
        go_ret
        exact ⟨ret_int HE.out.symm, hb0.trans (hb.mono hb0.size)⟩
  · have HE := Lib.hid (timedE_bad (time := time) h0)
    have h2 : (tabE ts first cs == 0) = false := by rw [beq_eq_false_iff_ne]; exact h0
    clear h0
    go_enter Try.func14, Try.ntmps14
    go_wp2_with fail
    refine (r_TableCheck A C capT capC ts first cs _ (H.below hb0)).mono ?_
    rintro e w1 ⟨rfl, hb⟩
    go_wp2_with fail
    go_ret
    exact ⟨ret_int HE.out.symm, hb0.trans (hb.mono hb0.size)⟩

/-- what Local answers -/
def localV (ts : List Ty) (first : Int) (cs : List Ch) (time : Int) : Int := if timedE ts first cs time = 0 then time + (tabOf ts first cs time).1 else 0
theorem localV_ok {ts : List Ty} {first : Int} {cs : List Ch} {time : Int} (h : timedE ts first cs time = 0) : localV ts first cs time = time + (tabOf ts first cs time).1 := by rw [localV, if_pos h]
theorem localV_no {ts : List Ty} {first : Int} {cs : List Ch} {time : Int} (h : ¬ timedE ts first cs time = 0) : localV ts first cs time = 0 := by rw [localV, if_neg h]
theorem timed_parts {ts : List Ty} {first : Int} {cs : List Ch} {time : Int} (h0 : timedE ts first cs time = 0) : tabE ts first cs = 0 ∧ (-1099511627776 ≤ time ∧ time ≤ 1099511627776) := by
  by_cases h1 : tabE ts first cs = 0
  · by_cases h2 : -1099511627776 ≤ time ∧ time ≤ 1099511627776
    · exact ⟨h1, h2⟩
    · rw [timedE_out h1 h2] at h0; omega
  · rw [timedE_bad h1] at h0; exact absurd h0 h1
theorem tabOf_mem {ts : List Ty} {first : Int} {cs : List Ch} (time : Int) (hK : TabOk ts first cs) : tabOf ts first cs time ∈ ts := by
  have hr := tyIx_range time hK
  have hn : (tyIx first cs time).toNat < ts.length := by omega
  have e : tabOf ts first cs time = ts[(tyIx first cs time).toNat] := by rw [tabOf]; simp [List.getD, hn]
  rw [e]; exact List.getElem_mem hn
set_option maxRecDepth 100000 in
set_option maxHeartbeats 2000000 in
theorem w_Local (A C : Option Addr) (capT capC : Nat) (ts : List Ty) (first : Int) (cs : List Ch) (time : Int) (w : World) (H : TabAt w A C capT capC ts cs) :
    Calls Try.prog 13 #[.agg #[.slice A ts.length capT, .int .i64 first, .slice C cs.length capC], .int .i64 time] w
      fun e w' => e = .returned (.tuple #[.int .i64 (localV ts first cs time), .int .i64 (timedE ts first cs time)]) ∧ Below w.heap.size w w' := by
  have hb0 : Below w.heap.size w (w.alloc (.cells #[.slice A ts.length capT, .int .i64 first, .slice C cs.length capC] 25)) := (by repeat (first | exact Below.refl _ _ | assumption | apply Below.drew | apply below_drewN | (refine Below.alloc ?_ (by simp; try omega) _) | (refine Below.setCell ?_ (by simp; try omega) _)))
  have X1 := Lib.hid (Bx.new w #[.slice A ts.length capT, .int .i64 first, .slice C cs.length capC] 25)
  have hfo := field_off
  by_cases h0 : timedE ts first cs time = 0
  · obtain ⟨h1, t1, t2⟩ := timed_parts h0
    have hK := tabOk h1
    have ho : -75600 ≤ (tabOf ts first cs time).1 ∧ (tabOf ts first cs time).1 ≤ 75600 := ⟨(hK.types _ (tabOf_mem time hK)).1, (hK.types _ (tabOf_mem time hK)).2.1⟩
    obtain ⟨o1, o2⟩ := ho
    have HK := Lib.hid hK
    clear hK h1
    go_enter Try.func13, Try.ntmps13
    go_wp2_with fail
    refine (w_check A C capT capC ts first cs time _ (H.below hb0)).mono ?_
    rintro e w1 ⟨rfl, hb⟩
    have x1 := X1.out.step hb
    have hb1 := hb0.trans (hb.mono hb0.size)
    have hcs := x1.1
    rw [h0]
    have H0 := Lib.hid h0
    clear hb X1 h0
    go_wp2_with fail
    refine (t_Of A C capT capC ts first cs time _ (H.below hb1) HK.out).mono ?_
    rintro e w2 ⟨rfl, hb2⟩
    go_wp2_with fail
    go_ret2
    exact ⟨ret_ii (localV_ok H0.out).symm H0.out.symm, hb1.trans (hb2.mono hb1.size)⟩
  · have h2 : (timedE ts first cs time != 0) = true := by rw [bne_iff_ne]; exact h0
    have H0 := Lib.hid h0
    clear h0
    go_enter Try.func13, Try.ntmps13
    go_wp2_with fail
    refine (w_check A C capT capC ts first cs time _ (H.below hb0)).mono ?_
    rintro e w1 ⟨rfl, hb⟩
    go_wp2_with fail
    go_ret2
    exact ⟨ret_ii (localV_no H0.out).symm rfl, hb0.trans (hb.mono hb0.size)⟩
theorem w_Local_zero (w : World) :
    Calls Try.prog 13 #[.agg #[.slice none 0 0, .int .i64 0, .slice none 0 0], .int .i64 0] w
      fun e w' => e = .returned (.tuple #[.int .i64 0, .int .i64 5]) ∧ Below w.heap.size w w' := w_Local none none 0 0 [] 0 [] 0 w (TabAt.zero w)
end Go.Proofs.Ytgnodiegippkeaa
