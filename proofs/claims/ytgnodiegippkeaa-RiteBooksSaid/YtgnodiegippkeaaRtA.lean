/- Walks of rite.dayOf, rite.turns and rite.Turns, and of the reference's riteDay and RiteTurns. -/
import Derived.Test.YtgnodiegippkeaaRiP
import Derived.Test.YtgnodiegippkeaaDayA
import Derived.Test.YtgnodiegippkeaaRiB
import Derived.Deep.RegionHeld3
import Derived.Deep.DrawnRows
namespace Go.Proofs.Ytgnodiegippkeaa
open Go.RowKit
set_option linter.unusedVariables false
def rdK (k : Int) : Int := if k = 5 then 2 else 3
def rdN (k : Int) : Int := if k = 5 then 0 else 7 * k - 6
set_option maxHeartbeats 1000000 in
theorem i_dayOf (m k d a : Int) (h : 1 ≤ k ∧ k ≤ 5) (w : World) :
    Calls Try.prog 67 #[.agg #[.int .i64 m, .int .i64 k, .int .i64 d, .int .i64 a]] w fun e w' => e = .returned (.agg #[.int .i64 (rdK k), .int .i64 d, .int .i64 (rdN k)]) ∧ Below w.heap.size w w' := by
  obtain ⟨h1, h2⟩ := h
  by_cases h5 : k = 5
  · subst h5
    go_enter Try.func67, Try.ntmps67
    go_wp2_with fail
    refine bodyPost_ret (v := .agg #[.int .i64 2, .int .i64 d, .int .i64 0]) (by simp [results, Try.results67, go_sem]) rfl ⟨rfl, (by repeat (first | exact Below.refl _ _ | assumption | apply Below.drew | apply below_drewN | (refine Below.alloc ?_ (by simp; try omega) _) | (refine Below.setCell ?_ (by simp; try omega) _)))⟩
  · have e1 : rdK k = 3 := by rw [rdK, if_neg h5]
    have e2 : rdN k = 7 * k - 6 := by rw [rdN, if_neg h5]
    rw [e1, e2]
    clear e1 e2
    go_enter Try.func67, Try.ntmps67
    go_wp2_with fail
    refine bodyPost_ret (v := .agg #[.int .i64 3, .int .i64 d, .int .i64 (7 * k - 6)]) (by simp [results, Try.results67, go_sem]) rfl ⟨rfl, (by repeat (first | exact Below.refl _ _ | assumption | apply Below.drew | apply below_drewN | (refine Below.alloc ?_ (by simp; try omega) _) | (refine Below.setCell ?_ (by simp; try omega) _)))⟩
theorem rd_dc {m k d a : Int} (h : riOk m k d a = true) : dcOk (rdK k) d (rdN k) = true := by
  have := riOk_iff.1 h
  rw [dcOk_iff, rdK, rdN]
  by_cases h5 : k = 5
  · rw [if_pos h5, if_pos h5]; omega
  · rw [if_neg h5, if_neg h5]; omega
theorem rd_in {m k d a y : Int} (h : riOk m k d a = true) (hy : 1600 ≤ y ∧ y ≤ 2399) : dofE y m (rdK k) d (rdN k) = 0 ∧ -135140 ≤ dofV y m (rdK k) d (rdN k) ∧ dofV y m (rdK k) d (rdN k) ≤ 157053 := by
  have hr := riOk_iff.1 h
  have hl : lenOk y m = true := lenOk_iff.2 ⟨hy.1, hy.2, hr.1, hr.2.1⟩
  have hb := lenM_bd y m
  have hm := month_in hl
  have hn : rdN k ≤ lenM y m := by rw [rdN]; split <;> omega
  have hd : dateOk (dofAt y m (rdK k) d (rdN k)) = true := by
    rw [dateOk_iff, dofAt, dofS, rdK, rdN]
    by_cases h5 : k = 5
    · rw [if_pos h5, if_pos h5, if_neg (by decide), if_neg (by decide), if_pos rfl]; omega
    · rw [if_neg h5, if_neg h5, if_neg (by decide), if_pos rfl, if_neg (by decide)]; omega
  have := dof_in (rd_dc h) hl hn hd
  rw [this.1, this.2]
  exact ⟨rfl, dateOk_iff.1 hd⟩
theorem rd_out {m k d a y : Int} (h : riOk m k d a = true) (hy : ¬ (1600 ≤ y ∧ y ≤ 2399)) : dofV y m (rdK k) d (rdN k) = 0 ∧ dofE y m (rdK k) d (rdN k) = 1 := by
  refine dof_len (rd_dc h) ?_
  cases e : lenOk y m with
  | false => rfl
  | true => have := lenOk_iff.1 e; exact absurd ⟨this.1, this.2.1⟩ hy
attribute [local go_sem ↓] Go.wp_at_zero Go.wp_at_succ
set_option maxRecDepth 100000 in
set_option maxHeartbeats 1000000 in
theorem i_turns_in (name also : ByteArray) (off aoff m1 k1 d1 a1 m2 k2 d2 a2 y : Int) (o1 : -64800 ≤ off ∧ off ≤ 64800) (o2 : off + 1 ≤ aoff ∧ aoff ≤ off + 10800) (r1 : riOk m1 k1 d1 a1 = true) (r2 : riOk m2 k2 d2 a2 = true) (hy : 1600 ≤ y ∧ y ≤ 2399) (w : World) :
    Calls Try.prog 73 #[.agg #[.string name, .int .i64 off, .string also, .int .i64 aoff, .int .i64 m1, .int .i64 k1, .int .i64 d1, .int .i64 a1, .int .i64 m2, .int .i64 k2, .int .i64 d2, .int .i64 a2], .int .i64 y] w fun e w' => e = .returned (.tuple #[.int .i64 (86400 * dofV y m1 (rdK k1) d1 (rdN k1) + a1 - off), .int .i64 (86400 * dofV y m2 (rdK k2) d2 (rdN k2) + a2 - aoff), .int .i64 0]) ∧ Below w.heap.size w w' := by
  obtain ⟨e1, b1, c1⟩ := rd_in r1 hy
  obtain ⟨e2, b2, c2⟩ := rd_in r2 hy
  have q1 := riOk_iff.1 r1
  have q2 := riOk_iff.1 r2
  have HK1 := Lib.hid (show 1 ≤ k1 ∧ k1 ≤ 5 from ⟨q1.2.2.1, q1.2.2.2.1⟩)
  have HK2 := Lib.hid (show 1 ≤ k2 ∧ k2 ≤ 5 from ⟨q2.2.2.1, q2.2.2.2.1⟩)
  obtain ⟨ta1, ta2⟩ : 0 ≤ a1 ∧ a1 ≤ 86400 := by omega
  obtain ⟨tb1, tb2⟩ : 0 ≤ a2 ∧ a2 ≤ 86400 := by omega
  obtain ⟨o1a, o1b⟩ := o1
  obtain ⟨o2a, o2b⟩ := o2
  obtain ⟨V1, hv1⟩ : ∃ V, dofV y m1 (rdK k1) d1 (rdN k1) = V := ⟨_, rfl⟩
  obtain ⟨V2, hv2⟩ : ∃ V, dofV y m2 (rdK k2) d2 (rdN k2) = V := ⟨_, rfl⟩
  rw [hv1] at b1 c1 ⊢
  rw [hv2] at b2 c2 ⊢
  clear q1 q2 r1 r2 hy
  obtain ⟨cs, hcs⟩ : ∃ cs : Array Value, cs = #[.string name, .int .i64 off, .string also, .int .i64 aoff, .int .i64 m1, .int .i64 k1, .int .i64 d1, .int .i64 a1, .int .i64 m2, .int .i64 k2, .int .i64 d2, .int .i64 a2] := ⟨_, rfl⟩
  have hS := boxc (w := w) (cs := cs) (t := 57) (Below.refl _ _)
  rw [hcs] at hS
  clear hcs
  go_enter Try.func73, Try.ntmps73
  go_wp2_with fail
  go_region_held3 (fun w' => (∀ i, w'.cell? ⟨w.heap.size, i, none⟩ = (#[.string name, .int .i64 off, .string also, .int .i64 aoff, .int .i64 m1, .int .i64 k1, .int .i64 d1, .int .i64 a1, .int .i64 m2, .int .i64 k2, .int .i64 d2, .int .i64 a2] : Array Value)[i]?) ∧ w.heap.size < w'.heap.size ∧ Below w.heap.size w w')
    (first | exact ⟨hS.1, hS.2.1, hS.2.2.drew⟩ | assumption | exact keepS (by assumption) (by assumption))
    (first | (go_at_call 67; refine (i_dayOf _ _ _ _ HK1.out _).mono ?_; rintro e w5 ⟨rfl, hb5⟩) | (go_at_call 88; refine (d_Of _ _ _ _ _ _).mono ?_; rintro e w5 ⟨rfl, hb5⟩))
  rename_i hH
  clear hS
  go_wp2_with fail
  go_region_held3 (fun w' => (∀ i, w'.cell? ⟨w.heap.size, i, none⟩ = (#[.string name, .int .i64 off, .string also, .int .i64 aoff, .int .i64 m1, .int .i64 k1, .int .i64 d1, .int .i64 a1, .int .i64 m2, .int .i64 k2, .int .i64 d2, .int .i64 a2] : Array Value)[i]?) ∧ w.heap.size < w'.heap.size ∧ Below w.heap.size w w')
    (first | exact ⟨hH.1, hH.2.1, hH.2.2.drew⟩ | assumption | exact keepS (by assumption) (by assumption))
    (first | (go_at_call 67; refine (i_dayOf _ _ _ _ HK2.out _).mono ?_; rintro e w5 ⟨rfl, hb5⟩) | (go_at_call 88; refine (d_Of _ _ _ _ _ _).mono ?_; rintro e w5 ⟨rfl, hb5⟩))
  rename_i hG
  clear hH
  obtain ⟨hcs, hz, hB⟩ := hG
  go_wp2_with fail
  go_quiet (fail)
  go_wp2_with fail
  refine bodyPost_ret (by simp only [results, Try.results73]; simp [go_sem]) rfl ⟨rfl, below_drewN hB _⟩
set_option maxRecDepth 100000 in
set_option maxHeartbeats 1000000 in
theorem i_turns_out (name also : ByteArray) (off aoff m1 k1 d1 a1 m2 k2 d2 a2 y : Int) (o1 : -64800 ≤ off ∧ off ≤ 64800) (o2 : off + 1 ≤ aoff ∧ aoff ≤ off + 10800) (r1 : riOk m1 k1 d1 a1 = true) (r2 : riOk m2 k2 d2 a2 = true) (hy : ¬ (1600 ≤ y ∧ y ≤ 2399)) (w : World) :
    Calls Try.prog 73 #[.agg #[.string name, .int .i64 off, .string also, .int .i64 aoff, .int .i64 m1, .int .i64 k1, .int .i64 d1, .int .i64 a1, .int .i64 m2, .int .i64 k2, .int .i64 d2, .int .i64 a2], .int .i64 y] w fun e w' => e = .returned (.tuple #[.int .i64 0, .int .i64 0, .int .i64 1]) ∧ Below w.heap.size w w' := by
  obtain ⟨v1, e1⟩ := rd_out r1 hy
  obtain ⟨v2, e2⟩ := rd_out r2 hy
  have q1 := riOk_iff.1 r1
  have q2 := riOk_iff.1 r2
  have HK1 := Lib.hid (show 1 ≤ k1 ∧ k1 ≤ 5 from ⟨q1.2.2.1, q1.2.2.2.1⟩)
  have HK2 := Lib.hid (show 1 ≤ k2 ∧ k2 ≤ 5 from ⟨q2.2.2.1, q2.2.2.2.1⟩)
  clear q1 q2 r1 r2 hy o1 o2
  obtain ⟨cs, hcs⟩ : ∃ cs : Array Value, cs = #[.string name, .int .i64 off, .string also, .int .i64 aoff, .int .i64 m1, .int .i64 k1, .int .i64 d1, .int .i64 a1, .int .i64 m2, .int .i64 k2, .int .i64 d2, .int .i64 a2] := ⟨_, rfl⟩
  have hS := boxc (w := w) (cs := cs) (t := 57) (Below.refl _ _)
  rw [hcs] at hS
  clear hcs
  go_enter Try.func73, Try.ntmps73
  go_wp2_with fail
  go_region_held3 (fun w' => (∀ i, w'.cell? ⟨w.heap.size, i, none⟩ = (#[.string name, .int .i64 off, .string also, .int .i64 aoff, .int .i64 m1, .int .i64 k1, .int .i64 d1, .int .i64 a1, .int .i64 m2, .int .i64 k2, .int .i64 d2, .int .i64 a2] : Array Value)[i]?) ∧ w.heap.size < w'.heap.size ∧ Below w.heap.size w w')
    (first | exact ⟨hS.1, hS.2.1, hS.2.2.drew⟩ | assumption | exact keepS (by assumption) (by assumption))
    (first | (go_at_call 67; refine (i_dayOf _ _ _ _ HK1.out _).mono ?_; rintro e w5 ⟨rfl, hb5⟩) | (go_at_call 88; refine (d_Of _ _ _ _ _ _).mono ?_; rintro e w5 ⟨rfl, hb5⟩))
  rename_i hH
  clear hS
  go_wp2_with fail
  go_region_held3 (fun w' => (∀ i, w'.cell? ⟨w.heap.size, i, none⟩ = (#[.string name, .int .i64 off, .string also, .int .i64 aoff, .int .i64 m1, .int .i64 k1, .int .i64 d1, .int .i64 a1, .int .i64 m2, .int .i64 k2, .int .i64 d2, .int .i64 a2] : Array Value)[i]?) ∧ w.heap.size < w'.heap.size ∧ Below w.heap.size w w')
    (first | exact ⟨hH.1, hH.2.1, hH.2.2.drew⟩ | assumption | exact keepS (by assumption) (by assumption))
    (first | (go_at_call 67; refine (i_dayOf _ _ _ _ HK2.out _).mono ?_; rintro e w5 ⟨rfl, hb5⟩) | (go_at_call 88; refine (d_Of _ _ _ _ _ _).mono ?_; rintro e w5 ⟨rfl, hb5⟩))
  rename_i hG
  clear hH
  obtain ⟨hcs, hz, hB⟩ := hG
  go_wp2_with fail
  refine bodyPost_ret (by simp only [results, Try.results73]; simp [go_sem]) rfl ⟨rfl, hB⟩

def rtE (name also : ByteArray) (off aoff m1 k1 d1 a1 m2 k2 d2 a2 y : Int) : Int := if posE name off also aoff m1 k1 d1 a1 m2 k2 d2 a2 = 0 then if also.size = 0 then 6 else if 1600 ≤ y ∧ y ≤ 2399 then 0 else 1 else posE name off also aoff m1 k1 d1 a1 m2 k2 d2 a2
def rtS (name also : ByteArray) (off aoff m1 k1 d1 a1 m2 k2 d2 a2 y : Int) : Int := if rtE name also off aoff m1 k1 d1 a1 m2 k2 d2 a2 y = 0 then 86400 * dofV y m1 (rdK k1) d1 (rdN k1) + a1 - off else 0
def rtT (name also : ByteArray) (off aoff m1 k1 d1 a1 m2 k2 d2 a2 y : Int) : Int := if rtE name also off aoff m1 k1 d1 a1 m2 k2 d2 a2 y = 0 then 86400 * dofV y m2 (rdK k2) d2 (rdN k2) + a2 - aoff else 0
section
variable {name also : ByteArray} {off aoff m1 k1 d1 a1 m2 k2 d2 a2 y : Int}
theorem rt_bad (h : ¬ posE name off also aoff m1 k1 d1 a1 m2 k2 d2 a2 = 0) : rtE name also off aoff m1 k1 d1 a1 m2 k2 d2 a2 y = posE name off also aoff m1 k1 d1 a1 m2 k2 d2 a2 ∧ rtS name also off aoff m1 k1 d1 a1 m2 k2 d2 a2 y = 0 ∧ rtT name also off aoff m1 k1 d1 a1 m2 k2 d2 a2 y = 0 := by
  have e : rtE name also off aoff m1 k1 d1 a1 m2 k2 d2 a2 y = posE name off also aoff m1 k1 d1 a1 m2 k2 d2 a2 := by rw [rtE, if_neg h]
  exact ⟨e, by rw [rtS, e, if_neg h], by rw [rtT, e, if_neg h]⟩
theorem rt_none (h : posE name off also aoff m1 k1 d1 a1 m2 k2 d2 a2 = 0) (h2 : also.size = 0) : rtE name also off aoff m1 k1 d1 a1 m2 k2 d2 a2 y = 6 ∧ rtS name also off aoff m1 k1 d1 a1 m2 k2 d2 a2 y = 0 ∧ rtT name also off aoff m1 k1 d1 a1 m2 k2 d2 a2 y = 0 := by
  have e : rtE name also off aoff m1 k1 d1 a1 m2 k2 d2 a2 y = 6 := by rw [rtE, if_pos h, if_pos h2]
  exact ⟨e, by rw [rtS, e]; rfl, by rw [rtT, e]; rfl⟩
theorem rt_out (h : posE name off also aoff m1 k1 d1 a1 m2 k2 d2 a2 = 0) (h2 : ¬ also.size = 0) (h3 : ¬ (1600 ≤ y ∧ y ≤ 2399)) : rtE name also off aoff m1 k1 d1 a1 m2 k2 d2 a2 y = 1 ∧ rtS name also off aoff m1 k1 d1 a1 m2 k2 d2 a2 y = 0 ∧ rtT name also off aoff m1 k1 d1 a1 m2 k2 d2 a2 y = 0 := by
  have e : rtE name also off aoff m1 k1 d1 a1 m2 k2 d2 a2 y = 1 := by rw [rtE, if_pos h, if_neg h2, if_neg h3]
  exact ⟨e, by rw [rtS, e]; rfl, by rw [rtT, e]; rfl⟩
theorem rt_in (h : posE name off also aoff m1 k1 d1 a1 m2 k2 d2 a2 = 0) (h2 : ¬ also.size = 0) (h3 : 1600 ≤ y ∧ y ≤ 2399) : rtE name also off aoff m1 k1 d1 a1 m2 k2 d2 a2 y = 0 ∧ rtS name also off aoff m1 k1 d1 a1 m2 k2 d2 a2 y = 86400 * dofV y m1 (rdK k1) d1 (rdN k1) + a1 - off ∧ rtT name also off aoff m1 k1 d1 a1 m2 k2 d2 a2 y = 86400 * dofV y m2 (rdK k2) d2 (rdN k2) + a2 - aoff := by
  have e : rtE name also off aoff m1 k1 d1 a1 m2 k2 d2 a2 y = 0 := by rw [rtE, if_pos h, if_neg h2, if_pos h3]
  exact ⟨e, by rw [rtS, e]; rfl, by rw [rtT, e]; rfl⟩
theorem pos_facts (h : posE name off also aoff m1 k1 d1 a1 m2 k2 d2 a2 = 0) (h2 : ¬ also.size = 0) : (-64800 ≤ off ∧ off ≤ 64800) ∧ (off + 1 ≤ aoff ∧ aoff ≤ off + 10800) ∧ riOk m1 k1 d1 a1 = true ∧ riOk m2 k2 d2 a2 = true := by
  rw [posE] at h
  split at h
  · cases h
  · split at h
    · cases h
    · rename_i g1
      try rw [if_neg h2] at h
      split at h
      · cases h
      · rename_i g2
        split at h
        · cases h
        · rename_i g3
          split at h
          · cases h
          · rename_i g4
            exact ⟨by omega, by omega, by simpa using g3, by simpa using g4⟩
end
set_option maxRecDepth 100000 in
set_option maxHeartbeats 1000000 in
theorem i_Turns (name also : ByteArray) (off aoff m1 k1 d1 a1 m2 k2 d2 a2 y : Int) (hn : name.size ≤ maxLen) (hl : also.size ≤ maxLen) (w : World) :
    Calls Try.prog 37 #[.agg #[.string name, .int .i64 off, .string also, .int .i64 aoff, .int .i64 m1, .int .i64 k1, .int .i64 d1, .int .i64 a1, .int .i64 m2, .int .i64 k2, .int .i64 d2, .int .i64 a2], .int .i64 y] w fun e w' => e = .returned (.tuple #[.int .i64 (rtS name also off aoff m1 k1 d1 a1 m2 k2 d2 a2 y), .int .i64 (rtT name also off aoff m1 k1 d1 a1 m2 k2 d2 a2 y), .int .i64 (rtE name also off aoff m1 k1 d1 a1 m2 k2 d2 a2 y)]) ∧ Below w.heap.size w w' := by
  by_cases h : posE name off also aoff m1 k1 d1 a1 m2 k2 d2 a2 = 0
  · by_cases h2 : also.size = 0
    · obtain ⟨e1, e2, e3⟩ := rt_none (y := y) h h2
      rw [e1, e2, e3]
      have q1 := em_list h2
      have q2 := em_isEmpty h2
      clear e1 e2 e3 h2
      go_enter Try.func37, Try.ntmps37
      go_wp2_with (first | (go_at_call 32; refine (i_Check _ _ _ _ _ _ _ _ _ _ _ _ hn hl _).mono ?_; rintro e w1 ⟨rfl, hb⟩; first | (obtain ⟨hcs, hz, hb'⟩ := boxc hb; clear hb) | (have K := keepc hcs hz hb' hb; clear hcs hz hb' hb; obtain ⟨hcs, hz, hb'⟩ := K)))
      refine bodyPost_ret (by simp only [results, Try.results37]; simp [go_sem]) rfl ⟨rfl, hb'⟩
    · have q1 := ne_list (q := also) (by omega)
      have q2 := ne_isEmpty (q := also) (by omega)
      obtain ⟨o1, o2, r1, r2⟩ := pos_facts h h2
      by_cases hy : 1600 ≤ y ∧ y ≤ 2399
      · have HT := Lib.hid (fun w => i_turns_in name also off aoff m1 k1 d1 a1 m2 k2 d2 a2 y o1 o2 r1 r2 hy w)
        obtain ⟨e1, e2, e3⟩ := rt_in (y := y) h h2 hy
        rw [e1, e2, e3]
        clear e1 e2 e3 h2 o1 o2 r1 r2 hy
        go_enter Try.func37, Try.ntmps37
        go_wp2_with (first | (go_at_call 32; refine (i_Check _ _ _ _ _ _ _ _ _ _ _ _ hn hl _).mono ?_; rintro e w1 ⟨rfl, hb⟩; first | (obtain ⟨hcs, hz, hb'⟩ := boxc hb; clear hb) | (have K := keepc hcs hz hb' hb; clear hcs hz hb' hb; obtain ⟨hcs, hz, hb'⟩ := K)) | (go_at_call 73; refine (HT.out _).mono ?_; rintro e w1 ⟨rfl, hb⟩))
        refine bodyPost_ret (by simp only [results, Try.results37]; simp [go_sem]) rfl ⟨rfl, hb'.trans (hb.mono hb'.size)⟩
      · have HT := Lib.hid (fun w => i_turns_out name also off aoff m1 k1 d1 a1 m2 k2 d2 a2 y o1 o2 r1 r2 hy w)
        obtain ⟨e1, e2, e3⟩ := rt_out (y := y) h h2 hy
        rw [e1, e2, e3]
        clear e1 e2 e3 h2 o1 o2 r1 r2 hy
        go_enter Try.func37, Try.ntmps37
        go_wp2_with (first | (go_at_call 32; refine (i_Check _ _ _ _ _ _ _ _ _ _ _ _ hn hl _).mono ?_; rintro e w1 ⟨rfl, hb⟩; first | (obtain ⟨hcs, hz, hb'⟩ := boxc hb; clear hb) | (have K := keepc hcs hz hb' hb; clear hcs hz hb' hb; obtain ⟨hcs, hz, hb'⟩ := K)) | (go_at_call 73; refine (HT.out _).mono ?_; rintro e w1 ⟨rfl, hb⟩))
        refine bodyPost_ret (by simp only [results, Try.results37]; simp [go_sem]) rfl ⟨rfl, hb'.trans (hb.mono hb'.size)⟩
  · obtain ⟨e1, e2, e3⟩ := rt_bad (y := y) h
    rw [e1, e2, e3]
    clear e1 e2 e3
    go_enter Try.func37, Try.ntmps37
    go_wp2_with (first | (go_at_call 32; refine (i_Check _ _ _ _ _ _ _ _ _ _ _ _ hn hl _).mono ?_; rintro e w1 ⟨rfl, hb⟩; first | (obtain ⟨hcs, hz, hb'⟩ := boxc hb; clear hb) | (have K := keepc hcs hz hb' hb; clear hcs hz hb' hb; obtain ⟨hcs, hz, hb'⟩ := K)))
    refine bodyPost_ret (by simp only [results, Try.results37]; simp [go_sem]) rfl ⟨rfl, hb'⟩
end Go.Proofs.Ytgnodiegippkeaa
