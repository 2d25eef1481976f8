/- Walk of the reference's RiteAt. -/
import Derived.Test.YtelgehpfjpbboaaDoorRaP
import Derived.Test.YtelgehpfjpbboaaDoorStR3
import Derived.Test.YtelgehpfjpbboaaDoorRtR
import Derived.Test.YtelgehpfjpbboaaDoorRaB
namespace Go.Proofs.YtelgehpfjpbboaaDoor
open Go.RowKit
set_option linter.unusedVariables false
set_option maxRecDepth 100000 in
set_option maxHeartbeats 2000000 in
theorem r_At_bad (name also : ByteArray) (off aoff m1 k1 d1 a1 m2 k2 d2 a2 t : Int) (hn : name.size ≤ maxLen) (hl : also.size ≤ maxLen) (h : ¬ posE name off also aoff m1 k1 d1 a1 m2 k2 d2 a2 = 0) (w : World) :
    Calls Tryd.prog 16 #[.agg #[.string name, .int .i64 off, .string also, .int .i64 aoff, .int .i64 m1, .int .i64 k1, .int .i64 d1, .int .i64 a1, .int .i64 m2, .int .i64 k2, .int .i64 d2, .int .i64 a2], .int .i64 t] w fun e w' => e = .returned (.tuple #[.agg #[.int .i64 0, .bool false, .string ⟨#[]⟩], .int .i64 (posE name off also aoff m1 k1 d1 a1 m2 k2 d2 a2)]) ∧ Below w.heap.size w w' := by
  have HS := Lib.hid (RS.start w #[.string name, .int .i64 off, .string also, .int .i64 aoff, .int .i64 m1, .int .i64 k1, .int .i64 d1, .int .i64 a1, .int .i64 m2, .int .i64 k2, .int .i64 d2, .int .i64 a2] 25 36)
  go_enter Tryd.func16, Tryd.ntmps16
  go_wp2_with fail
  refine (r_RiteCheck _ _ _ _ _ _ _ _ _ _ _ _ hn hl _).mono ?_
  rintro e w1 ⟨rfl, hb⟩
  replace HS := Lib.hid (HS.out.step hb)
  clear hb
  have hcs := HS.out.1.1
  have hr := HS.out.2.1.1
  have hfr := HS.out.2.1.2.1
  have hsz := HS.out.2.1.2.2
  have hB := HS.out.2.2
  go_wp2_with fail
  refine bodyPost_ret (v := .tuple #[.agg #[.int .i64 0, .bool false, .string ⟨#[]⟩], .int .i64 (posE name off also aoff m1 k1 d1 a1 m2 k2 d2 a2)]) (by first | (simp [results, Tryd.results16, go_sem, hr]; done) | (simp [results, Tryd.results16, go_sem, hr, hsz, hz, cell_old, size_alloc]; done)) rfl ⟨rfl, (by repeat (first | exact Below.refl _ _ | assumption | apply Below.drew | apply below_drewN | (refine Below.alloc ?_ (by simp; try omega) _) | (refine Below.setCell ?_ (by simp; try omega) _)))⟩
set_option maxRecDepth 100000 in
set_option maxHeartbeats 2000000 in
theorem r_At_t1 (name also : ByteArray) (off aoff m1 k1 d1 a1 m2 k2 d2 a2 t : Int) (hn : name.size ≤ maxLen) (hl : also.size ≤ maxLen) (w : World) (h : posE name off also aoff m1 k1 d1 a1 m2 k2 d2 a2 = 0) (h3 : isTimeB t = false) :
    Calls Tryd.prog 16 #[.agg #[.string name, .int .i64 off, .string also, .int .i64 aoff, .int .i64 m1, .int .i64 k1, .int .i64 d1, .int .i64 a1, .int .i64 m2, .int .i64 k2, .int .i64 d2, .int .i64 a2], .int .i64 t] w fun e w' => e = .returned (.tuple #[.agg #[.int .i64 0, .bool false, .string ⟨#[]⟩], .int .i64 (1)]) ∧ Below w.heap.size w w' := by
  have HS := Lib.hid (RS.start w #[.string name, .int .i64 off, .string also, .int .i64 aoff, .int .i64 m1, .int .i64 k1, .int .i64 d1, .int .i64 a1, .int .i64 m2, .int .i64 k2, .int .i64 d2, .int .i64 a2] 25 36)
  go_enter Tryd.func16, Tryd.ntmps16
  go_wp2_with fail
  refine (r_RiteCheck _ _ _ _ _ _ _ _ _ _ _ _ hn hl _).mono ?_
  rintro e w1 ⟨rfl, hb⟩
  replace HS := Lib.hid (HS.out.step hb)
  clear hb
  have hcs := HS.out.1.1
  have hr := HS.out.2.1.1
  have hfr := HS.out.2.1.2.1
  have hsz := HS.out.2.1.2.2
  have hB := HS.out.2.2
  go_wp2_with (first | (go_at_call 36; refine (r_IsTime _ _).mono ?_; rintro e w' ⟨rfl, rfl⟩))
  refine bodyPost_ret (v := .tuple #[.agg #[.int .i64 0, .bool false, .string ⟨#[]⟩], .int .i64 (1)]) (by first | (simp [results, Tryd.results16, go_sem, hr]; done) | (simp [results, Tryd.results16, go_sem, hr, hsz, hz, cell_old, size_alloc]; done)) rfl ⟨rfl, (by repeat (first | exact Below.refl _ _ | assumption | apply Below.drew | apply below_drewN | (refine Below.alloc ?_ (by simp; try omega) _) | (refine Below.setCell ?_ (by simp; try omega) _)))⟩
set_option maxRecDepth 100000 in
set_option maxHeartbeats 2000000 in
theorem r_At_t2 (name also : ByteArray) (off aoff m1 k1 d1 a1 m2 k2 d2 a2 t : Int) (hn : name.size ≤ maxLen) (hl : also.size ≤ maxLen) (w : World) (ho : -64800 ≤ off ∧ off ≤ 64800) (h : posE name off also aoff m1 k1 d1 a1 m2 k2 d2 a2 = 0) (h3 : isTimeB t = true) (h4 : isTimeB (t + off) = false) :
    Calls Tryd.prog 16 #[.agg #[.string name, .int .i64 off, .string also, .int .i64 aoff, .int .i64 m1, .int .i64 k1, .int .i64 d1, .int .i64 a1, .int .i64 m2, .int .i64 k2, .int .i64 d2, .int .i64 a2], .int .i64 t] w fun e w' => e = .returned (.tuple #[.agg #[.int .i64 0, .bool false, .string ⟨#[]⟩], .int .i64 (1)]) ∧ Below w.heap.size w w' := by
  have HS := Lib.hid (RS.start w #[.string name, .int .i64 off, .string also, .int .i64 aoff, .int .i64 m1, .int .i64 k1, .int .i64 d1, .int .i64 a1, .int .i64 m2, .int .i64 k2, .int .i64 d2, .int .i64 a2] 25 36)
  have hd := isTime_iff.1 h3
  obtain ⟨o1, o2⟩ := ho
  obtain ⟨t1, t2⟩ : -20000000000 ≤ t ∧ t ≤ 20000000000 := by omega
  clear hd
  go_enter Tryd.func16, Tryd.ntmps16
  go_wp2_with fail
  refine (r_RiteCheck _ _ _ _ _ _ _ _ _ _ _ _ hn hl _).mono ?_
  rintro e w1 ⟨rfl, hb⟩
  replace HS := Lib.hid (HS.out.step hb)
  clear hb
  have hcs := HS.out.1.1
  have hr := HS.out.2.1.1
  have hfr := HS.out.2.1.2.1
  have hsz := HS.out.2.1.2.2
  have hB := HS.out.2.2
  go_wp2_with (first | (go_at_call 36; refine (r_IsTime _ _).mono ?_; rintro e w' ⟨rfl, rfl⟩))
  refine bodyPost_ret (v := .tuple #[.agg #[.int .i64 0, .bool false, .string ⟨#[]⟩], .int .i64 (1)]) (by first | (simp [results, Tryd.results16, go_sem, hr]; done) | (simp [results, Tryd.results16, go_sem, hr, hsz, hz, cell_old, size_alloc]; done)) rfl ⟨rfl, (by repeat (first | exact Below.refl _ _ | assumption | apply Below.drew | apply below_drewN | (refine Below.alloc ?_ (by simp; try omega) _) | (refine Below.setCell ?_ (by simp; try omega) _)))⟩
set_option maxRecDepth 100000 in
set_option maxHeartbeats 2000000 in
theorem r_At_none (name also : ByteArray) (off aoff m1 k1 d1 a1 m2 k2 d2 a2 t : Int) (hn : name.size ≤ maxLen) (hl : also.size ≤ maxLen) (w : World) (ho : -64800 ≤ off ∧ off ≤ 64800) (h : posE name off also aoff m1 k1 d1 a1 m2 k2 d2 a2 = 0) (h3 : isTimeB t = true) (h4 : isTimeB (t + off) = true) (h5 : also.size = 0) :
    Calls Tryd.prog 16 #[.agg #[.string name, .int .i64 off, .string also, .int .i64 aoff, .int .i64 m1, .int .i64 k1, .int .i64 d1, .int .i64 a1, .int .i64 m2, .int .i64 k2, .int .i64 d2, .int .i64 a2], .int .i64 t] w fun e w' => e = .returned (.tuple #[.agg #[.int .i64 off, .bool false, .string name], .int .i64 (0)]) ∧ Below w.heap.size w w' := by
  have HS := Lib.hid (RS.start w #[.string name, .int .i64 off, .string also, .int .i64 aoff, .int .i64 m1, .int .i64 k1, .int .i64 d1, .int .i64 a1, .int .i64 m2, .int .i64 k2, .int .i64 d2, .int .i64 a2] 25 36)
  have hd := isTime_iff.1 h3
  obtain ⟨o1, o2⟩ := ho
  obtain ⟨t1, t2⟩ : -20000000000 ≤ t ∧ t ≤ 20000000000 := by omega
  have q1 := em_list h5
  have q2 := em_isEmpty h5
  clear h5 hd
  go_enter Tryd.func16, Tryd.ntmps16
  go_wp2_with fail
  refine (r_RiteCheck _ _ _ _ _ _ _ _ _ _ _ _ hn hl _).mono ?_
  rintro e w1 ⟨rfl, hb⟩
  replace HS := Lib.hid (HS.out.step hb)
  clear hb
  have hcs := HS.out.1.1
  have hz := HS.out.1.2.2
  have hr := HS.out.2.1.1
  have hfr := HS.out.2.1.2.1
  have hsz := HS.out.2.1.2.2
  have hB := HS.out.2.2
  go_wp2_with (first | (go_at_call 36; refine (r_IsTime _ _).mono ?_; rintro e w' ⟨rfl, rfl⟩))
  refine bodyPost_ret (v := .tuple #[.agg #[.int .i64 off, .bool false, .string name], .int .i64 (0)]) (by simp [results, Tryd.results16, go_sem, hr, hsz, cell_old]) rfl ⟨rfl, (by repeat (first | exact Below.refl _ _ | assumption | apply Below.drew | apply below_drewN | (refine Below.alloc ?_ (by simp; try omega) _) | (refine Below.setCell ?_ (by simp; try omega) _)))⟩
end Go.Proofs.YtelgehpfjpbboaaDoor
