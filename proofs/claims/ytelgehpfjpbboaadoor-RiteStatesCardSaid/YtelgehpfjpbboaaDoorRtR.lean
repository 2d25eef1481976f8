/- Walks of the reference's riteDay and RiteTurns. -/
import Derived.Test.YtelgehpfjpbboaaDoorRtA
import Derived.Test.YtelgehpfjpbboaaDoorRiR2
import Derived.Test.YtelgehpfjpbboaaDoorDayR2
namespace Go.Proofs.YtelgehpfjpbboaaDoor
open Go.RowKit
set_option linter.unusedVariables false
set_option maxHeartbeats 1000000 in
theorem r_riteDay (y m k d a : Int) (h : 1 ≤ k ∧ k ≤ 5) (w : World) :
    Calls Tryd.prog 52 #[.int .i64 y, .agg #[.int .i64 m, .int .i64 k, .int .i64 d, .int .i64 a]] w fun e w' => e = .returned (.tuple #[.int .i64 (dofV y m (rdK k) d (rdN k)), .int .i64 (dofE y m (rdK k) d (rdN k))]) ∧ Below w.heap.size w w' := by
  obtain ⟨h1, h2⟩ := h
  by_cases h5 : k = 5
  · subst h5
    have e1 : rdK 5 = 2 := rfl
    have e2 : rdN 5 = 0 := rfl
    rw [e1, e2]
    clear e1 e2
    go_enter Tryd.func52, Tryd.ntmps52
    go_wp2_with fail
    refine (r_DayOf _ _ _ _ _ _).mono ?_
    rintro e w1 ⟨rfl, hb⟩
    go_wp2_with fail
    go_ret2
    refine ⟨rfl, Below.trans ?_ (hb.mono ?_)⟩
    · exact (by repeat (first | exact Below.refl _ _ | assumption | apply Below.drew | apply below_drewN | (refine Below.alloc ?_ (by simp; try omega) _) | (refine Below.setCell ?_ (by simp; try omega) _)))
    · simp; try omega
  · have e1 : rdK k = 3 := by rw [rdK, if_neg h5]
    have e2 : rdN k = 7 * k - 6 := by rw [rdN, if_neg h5]
    rw [e1, e2]
    clear e1 e2
    go_enter Tryd.func52, Tryd.ntmps52
    go_wp2_with fail
    refine (r_DayOf _ _ _ _ _ _).mono ?_
    rintro e w1 ⟨rfl, hb⟩
    go_wp2_with fail
    go_ret2
    refine ⟨rfl, Below.trans ?_ (hb.mono ?_)⟩
    · exact (by repeat (first | exact Below.refl _ _ | assumption | apply Below.drew | apply below_drewN | (refine Below.alloc ?_ (by simp; try omega) _) | (refine Below.setCell ?_ (by simp; try omega) _)))
    · simp; try omega
set_option maxRecDepth 100000 in
set_option maxHeartbeats 1000000 in
theorem r_RiteTurns (name also : ByteArray) (off aoff m1 k1 d1 a1 m2 k2 d2 a2 y : Int) (hn : name.size ≤ maxLen) (hl : also.size ≤ maxLen) (w : World) :
    Calls Tryd.prog 37 #[.agg #[.string name, .int .i64 off, .string also, .int .i64 aoff, .int .i64 m1, .int .i64 k1, .int .i64 d1, .int .i64 a1, .int .i64 m2, .int .i64 k2, .int .i64 d2, .int .i64 a2], .int .i64 y] w fun e w' => e = .returned (.tuple #[.int .i64 (rtS name also off aoff m1 k1 d1 a1 m2 k2 d2 a2 y), .int .i64 (rtT name also off aoff m1 k1 d1 a1 m2 k2 d2 a2 y), .int .i64 (rtE name also off aoff m1 k1 d1 a1 m2 k2 d2 a2 y)]) ∧ Below w.heap.size w w' := by
  by_cases h : posE name off also aoff m1 k1 d1 a1 m2 k2 d2 a2 = 0
  · by_cases h2 : also.size = 0
    · obtain ⟨e1, e2, e3⟩ := rt_none (y := y) h h2
      rw [e1, e2, e3]
      have q1 := em_list h2
      have q2 := em_isEmpty h2
      clear e1 e2 e3 h2
      go_enter Tryd.func37, Tryd.ntmps37
      go_wp2_with (first | (go_at_call 19; refine (r_RiteCheck _ _ _ _ _ _ _ _ _ _ _ _ hn hl _).mono ?_; rintro e w1 ⟨rfl, hb⟩; first | (obtain ⟨hcs, hz, hb'⟩ := boxc hb; clear hb) | (have K := keepc hcs hz hb' hb; clear hcs hz hb' hb; obtain ⟨hcs, hz, hb'⟩ := K)))
      refine bodyPost_ret (by simp only [results, Tryd.results37]; simp [go_sem]) rfl ⟨rfl, hb'⟩
    · have q1 := ne_list (q := also) (by omega)
      have q2 := ne_isEmpty (q := also) (by omega)
      obtain ⟨o1, o2, r1, r2⟩ := pos_facts h h2
      by_cases hy : 1600 ≤ y ∧ y ≤ 2399
      · obtain ⟨e1, e2, e3⟩ := rt_in (y := y) h h2 hy
        rw [e1, e2, e3]
        clear e1 e2 e3 h2
        obtain ⟨e1, b1, c1⟩ := rd_in r1 hy
        obtain ⟨e2, b2, c2⟩ := rd_in r2 hy
        have q1 := riOk_iff.1 r1
        have q2 := riOk_iff.1 r2
        have HK1 := Lib.hid (show 1 ≤ k1 ∧ k1 ≤ 5 from ⟨q1.2.2.1, q1.2.2.2.1⟩)
        have HK2 := Lib.hid (show 1 ≤ k2 ∧ k2 ≤ 5 from ⟨q2.2.2.1, q2.2.2.2.1⟩)
        obtain ⟨ta1, ta2⟩ : 0 ≤ a1 ∧ a1 ≤ 86400 := by omega
        obtain ⟨tb1, tb2⟩ : 0 ≤ a2 ∧ a2 ≤ 86400 := by omega
        obtain ⟨o1a, o1b⟩ := o1
        obtain ⟨o2a, o2b⟩ := o2
        obtain ⟨V1, hv1⟩ : ∃ V, dofV y m1 (rdK k1) d1 (rdN k1) = V := ⟨_, rfl⟩
        obtain ⟨V2, hv2⟩ : ∃ V, dofV y m2 (rdK k2) d2 (rdN k2) = V := ⟨_, rfl⟩
        rw [hv1] at b1 c1 ⊢
        rw [hv2] at b2 c2 ⊢
        have hd : decide (y < 1600 ∨ 2399 < y) = false := by simp; omega
        clear q1 q2 r1 r2 hy
        go_enter Tryd.func37, Tryd.ntmps37
        go_wp2_with (first | (go_at_call 19; refine (r_RiteCheck _ _ _ _ _ _ _ _ _ _ _ _ hn hl _).mono ?_; rintro e w1 ⟨rfl, hb⟩; first | (obtain ⟨hcs, hz, hb'⟩ := boxc hb; clear hb) | (have K := keepc hcs hz hb' hb; clear hcs hz hb' hb; obtain ⟨hcs, hz, hb'⟩ := K)) | (go_at_call 26; refine (r_outside _ _ _ _).mono ?_; rintro e w' ⟨rfl, rfl⟩) | (go_at_call 52; refine (r_riteDay _ _ _ _ _ ?_ _).mono ?_; (first | exact HK1.out | exact HK2.out); rintro e w1 ⟨rfl, hb⟩; have K := keepc hcs hz hb' hb; clear hcs hz hb' hb; obtain ⟨hcs, hz, hb'⟩ := K))
        go_quiet (fail)
        go_wp2_with fail
        refine bodyPost_ret (by simp only [results, Tryd.results37]; simp [go_sem]) rfl ⟨rfl, below_drewN hb' _⟩
      · obtain ⟨e1, e2, e3⟩ := rt_out (y := y) h h2 hy
        rw [e1, e2, e3]
        have hd : decide (y < 1600 ∨ 2399 < y) = true := by simp; omega
        clear e1 e2 e3 h2 o1 o2 r1 r2 hy
        go_enter Tryd.func37, Tryd.ntmps37
        go_wp2_with (first | (go_at_call 19; refine (r_RiteCheck _ _ _ _ _ _ _ _ _ _ _ _ hn hl _).mono ?_; rintro e w1 ⟨rfl, hb⟩; first | (obtain ⟨hcs, hz, hb'⟩ := boxc hb; clear hb) | (have K := keepc hcs hz hb' hb; clear hcs hz hb' hb; obtain ⟨hcs, hz, hb'⟩ := K)) | (go_at_call 26; refine (r_outside _ _ _ _).mono ?_; rintro e w' ⟨rfl, rfl⟩))
        refine bodyPost_ret (by simp only [results, Tryd.results37]; simp [go_sem]) rfl ⟨rfl, hb'⟩
  · obtain ⟨e1, e2, e3⟩ := rt_bad (y := y) h
    rw [e1, e2, e3]
    clear e1 e2 e3
    go_enter Tryd.func37, Tryd.ntmps37
    go_wp2_with (first | (go_at_call 19; refine (r_RiteCheck _ _ _ _ _ _ _ _ _ _ _ _ hn hl _).mono ?_; rintro e w1 ⟨rfl, hb⟩; first | (obtain ⟨hcs, hz, hb'⟩ := boxc hb; clear hb) | (have K := keepc hcs hz hb' hb; clear hcs hz hb' hb; obtain ⟨hcs, hz, hb'⟩ := K)))
    refine bodyPost_ret (by simp only [results, Tryd.results37]; simp [go_sem]) rfl ⟨rfl, hb'⟩
end Go.Proofs.YtelgehpfjpbboaaDoor
