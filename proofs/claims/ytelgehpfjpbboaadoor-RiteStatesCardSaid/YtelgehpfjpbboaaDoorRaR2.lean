/- Walk of the reference's RiteAt. -/
import Derived.Test.YtelgehpfjpbboaaDoorRaP
import Derived.Test.YtelgehpfjpbboaaDoorStR3
import Derived.Test.YtelgehpfjpbboaaDoorRtR
import Derived.Test.YtelgehpfjpbboaaDoorRaC
namespace Go.Proofs.YtelgehpfjpbboaaDoor
open Go.RowKit
set_option linter.unusedVariables false
set_option maxRecDepth 100000 in
set_option maxHeartbeats 16000000 in
theorem r_At_yes (name also : ByteArray) (off aoff m1 k1 d1 a1 m2 k2 d2 a2 t : Int) (hn : name.size ≤ maxLen) (hl : also.size ≤ maxLen) (w : World) (ho : -64800 ≤ off ∧ off ≤ 64800) (h : posE name off also aoff m1 k1 d1 a1 m2 k2 d2 a2 = 0) (h3 : isTimeB t = true) (h4 : isTimeB (t + off) = true) (h5 : 1 ≤ also.size) (h6 : raIs t (raS m1 k1 d1 a1 off (dYear ((t + off) / 86400))) (raS m2 k2 d2 a2 aoff (dYear ((t + off) / 86400))) = true) (h7 : off + 1 ≤ aoff ∧ aoff ≤ off + 10800) (r1 : riOk m1 k1 d1 a1 = true) (r2 : riOk m2 k2 d2 a2 = true) :
    Calls Tryd.prog 16 #[.agg #[.string name, .int .i64 off, .string also, .int .i64 aoff, .int .i64 m1, .int .i64 k1, .int .i64 d1, .int .i64 a1, .int .i64 m2, .int .i64 k2, .int .i64 d2, .int .i64 a2], .int .i64 t] w fun e w' => e = .returned (.tuple #[.agg #[.int .i64 aoff, .bool true, .string also], .int .i64 (0)]) ∧ Below w.heap.size w w' := by
  have HS := Lib.hid (RS.start w #[.string name, .int .i64 off, .string also, .int .i64 aoff, .int .i64 m1, .int .i64 k1, .int .i64 d1, .int .i64 a1, .int .i64 m2, .int .i64 k2, .int .i64 d2, .int .i64 a2] 25 36)
  have hd := isTime_iff.1 h3
  obtain ⟨o1, o2⟩ := ho
  obtain ⟨t1, t2⟩ : -20000000000 ≤ t ∧ t ≤ 20000000000 := by omega
  have q1 := ne_list h5
  have q2 := ne_isEmpty h5
  have h4' : dateOk ((t + off) / 86400) = true := by rw [← isTime_div]; exact h4
  have hy := year_in h4'
  have sb := raS_bd r1 hy (show -100000 ≤ off ∧ off ≤ 100000 by omega)
  have eb := raS_bd r2 hy (show -100000 ≤ aoff ∧ aoff ≤ 100000 by omega)
  have hT := fun w => r_RiteTurns name also off aoff m1 k1 d1 a1 m2 k2 d2 a2 (dYear ((t + off) / 86400)) hn hl w
  obtain ⟨e1, e2, e3⟩ := rt_in (y := dYear ((t + off) / 86400)) h (by omega) hy
  rw [e1, e2, e3] at hT
  obtain ⟨n, hN⟩ : ∃ n, (t + off) / 86400 = n := ⟨_, rfl⟩
  rw [hN] at hT sb eb h6 h4'
  have hn4 := dateOk_iff.1 h4'
  have HD := Lib.hid (fun w => r_Date_yes n h4' w)
  obtain ⟨S, hS⟩ : ∃ S, raS m1 k1 d1 a1 off (dYear n) = S := ⟨_, rfl⟩
  obtain ⟨T, hTT⟩ : ∃ T, raS m2 k2 d2 a2 aoff (dYear n) = T := ⟨_, rfl⟩
  have hT' : ∀ w, Calls Tryd.prog 37 #[.agg #[.string name, .int .i64 off, .string also, .int .i64 aoff, .int .i64 m1, .int .i64 k1, .int .i64 d1, .int .i64 a1, .int .i64 m2, .int .i64 k2, .int .i64 d2, .int .i64 a2], .int .i64 (dYear n)] w fun e w' => e = .returned (.tuple #[.int .i64 S, .int .i64 T, .int .i64 0]) ∧ Below w.heap.size w w' := by
    intro w; rw [← hS, ← hTT]; exact hT w
  rw [hS, hTT] at h6
  rw [hS] at sb
  rw [hTT] at eb
  have HT := Lib.hid hT'
  have HF := Lib.hid (fun w => r_Rest2 (t + off) (by omega) (by omega) w)
  obtain ⟨r, hrr, hr1, hr2⟩ : ∃ r, (t + off) % 86400 = r ∧ 0 ≤ r ∧ r < 86400 := ⟨_, rfl, by omega, by omega⟩
  obtain ⟨X, hX⟩ : ∃ X, t + off - r = X := ⟨_, rfl⟩
  have hX2 : X = 86400 * n := by omega
  have hXn : X.tdiv 86400 = n := by rw [hX2, Int.mul_tdiv_cancel_left _ (by omega)]
  obtain ⟨sb1, sb2⟩ := sb
  obtain ⟨eb1, eb2⟩ := eb
  obtain ⟨n1, n2⟩ := hn4
  obtain ⟨x1, x2⟩ : -20000000000 ≤ X ∧ X ≤ 20000000000 := by omega
  have HW := Lib.hid (ra_ways t S T)
  have H6 := Lib.hid h6
  clear h4' h5 hd h6 h7 r1 r2 hy hT hT' hS hTT e1 e2 e3 hX2 hN
  go_enter Tryd.func16, Tryd.ntmps16
  go_wp2_with fail
  refine (r_RiteCheck _ _ _ _ _ _ _ _ _ _ _ _ hn hl _).mono ?_
  rintro e w1 ⟨rfl, hb⟩
  replace HS := Lib.hid (HS.out.step hb)
  clear hb
  have hcs := HS.out.1.1
  have hz := HS.out.1.2.2
  rcases HW.out with ⟨hi, ws⟩ | ⟨hi, ws⟩
  · clear hi
    rcases ws with ⟨v1, v2, v3⟩ | ⟨v1, v2⟩ | ⟨v1, v2, v3⟩
    · have hdd : decide (t < S) = false := decide_eq_false (by omega)
      go_wp2_with (first | (go_at_call 36; refine (r_IsTime _ _).mono ?_; rintro e w' ⟨rfl, rfl⟩))
      refine (HF.out _).mono ?_
      rintro e w3 ⟨rfl, rfl⟩
      go_wp2_with fail
      refine (HD.out _).mono ?_
      rintro e w4 ⟨rfl, hb⟩
      have y1 := Lib.hid ((Bx.new _ _ _).step hb)
      have hg := HS.out.2.1.2.2
      have hne1 : ¬ w1.heap.size = w.heap.size + 1 := by omega
      have hne2 : ¬ w.heap.size + 1 = w1.heap.size := by omega
      replace HS := Lib.hid ((HS.out.alloc _).step hb)
      clear hb hcs hz
      have hcs := HS.out.1.1
      go_wp2_with fail
      refine (HT.out _).mono ?_
      rintro e w5 ⟨rfl, hb⟩
      replace HS := Lib.hid (HS.out.step hb)
      replace y1 := Lib.hid (y1.out.step hb)
      clear hb hcs
      have hcs := HS.out.1.1
      have hz := HS.out.1.2.2
      have hs1 := y1.out.1
      have hs2 := y1.out.2.1
      have hs3 := y1.out.2.2
      have hr := HS.out.2.1.1
      have hfr := HS.out.2.1.2.1
      have hsz := HS.out.2.1.2.2
      have hB := HS.out.2.2
      go_wp2_with fail
      have q := set3 (W := ((w5.setCell ⟨w1.heap.size, 0, none⟩ (.int .i64 aoff)).setCell ⟨w1.heap.size, 1, none⟩ (.bool true)).setCell ⟨w1.heap.size, 2, none⟩ (.string also)) (g := w.heap.size + 1) (x := .int .i64 aoff) (y := .bool true) (z := .string also) ((far3 hne1).trans (hr 0)) ((far3 hne1).trans (hr 1)) ((far3 hne1).trans (hr 2))
      have hbw := Below.setCell (Below.setCell (Below.setCell (Below.setCell (Below.setCell (Below.setCell hB (show w.heap.size ≤ w1.heap.size by omega) (.int .i64 aoff) (p := ⟨w1.heap.size, 0, none⟩)) (show w.heap.size ≤ w1.heap.size by omega) (.bool true) (p := ⟨w1.heap.size, 1, none⟩)) (show w.heap.size ≤ w1.heap.size by omega) (.string also) (p := ⟨w1.heap.size, 2, none⟩)) (Nat.le_succ _) (.int .i64 aoff) (p := ⟨w.heap.size + 1, 0, none⟩)) (Nat.le_succ _) (.bool true) (p := ⟨w.heap.size + 1, 1, none⟩)) (Nat.le_succ _) (.string also) (p := ⟨w.heap.size + 1, 2, none⟩)
      revert q hbw
      generalize (((((w5.setCell ⟨w1.heap.size, 0, none⟩ (.int .i64 aoff)).setCell ⟨w1.heap.size, 1, none⟩ (.bool true)).setCell ⟨w1.heap.size, 2, none⟩ (.string also)).setCell ⟨w.heap.size + 1, 0, none⟩ (.int .i64 aoff)).setCell ⟨w.heap.size + 1, 1, none⟩ (.bool true)).setCell ⟨w.heap.size + 1, 2, none⟩ (.string also) = W'
      rintro ⟨q0, q1', q2'⟩ hbw
      refine bodyPost_ret (v := .tuple #[.agg #[.int .i64 aoff, .bool true, .string also], .int .i64 0]) (by simp [results, Tryd.results16, go_sem, q0, q1', q2']) rfl ⟨rfl, hbw⟩
    · have hdd : decide (t < S) = false := decide_eq_false (by omega)
      go_wp2_with (first | (go_at_call 36; refine (r_IsTime _ _).mono ?_; rintro e w' ⟨rfl, rfl⟩))
      refine (HF.out _).mono ?_
      rintro e w3 ⟨rfl, rfl⟩
      go_wp2_with fail
      refine (HD.out _).mono ?_
      rintro e w4 ⟨rfl, hb⟩
      have y1 := Lib.hid ((Bx.new _ _ _).step hb)
      have hg := HS.out.2.1.2.2
      have hne1 : ¬ w1.heap.size = w.heap.size + 1 := by omega
      have hne2 : ¬ w.heap.size + 1 = w1.heap.size := by omega
      replace HS := Lib.hid ((HS.out.alloc _).step hb)
      clear hb hcs hz
      have hcs := HS.out.1.1
      go_wp2_with fail
      refine (HT.out _).mono ?_
      rintro e w5 ⟨rfl, hb⟩
      replace HS := Lib.hid (HS.out.step hb)
      replace y1 := Lib.hid (y1.out.step hb)
      clear hb hcs
      have hcs := HS.out.1.1
      have hz := HS.out.1.2.2
      have hs1 := y1.out.1
      have hs2 := y1.out.2.1
      have hs3 := y1.out.2.2
      have hr := HS.out.2.1.1
      have hfr := HS.out.2.1.2.1
      have hsz := HS.out.2.1.2.2
      have hB := HS.out.2.2
      go_wp2_with fail
      have q := set3 (W := ((w5.setCell ⟨w1.heap.size, 0, none⟩ (.int .i64 aoff)).setCell ⟨w1.heap.size, 1, none⟩ (.bool true)).setCell ⟨w1.heap.size, 2, none⟩ (.string also)) (g := w.heap.size + 1) (x := .int .i64 aoff) (y := .bool true) (z := .string also) ((far3 hne1).trans (hr 0)) ((far3 hne1).trans (hr 1)) ((far3 hne1).trans (hr 2))
      have hbw := Below.setCell (Below.setCell (Below.setCell (Below.setCell (Below.setCell (Below.setCell hB (show w.heap.size ≤ w1.heap.size by omega) (.int .i64 aoff) (p := ⟨w1.heap.size, 0, none⟩)) (show w.heap.size ≤ w1.heap.size by omega) (.bool true) (p := ⟨w1.heap.size, 1, none⟩)) (show w.heap.size ≤ w1.heap.size by omega) (.string also) (p := ⟨w1.heap.size, 2, none⟩)) (Nat.le_succ _) (.int .i64 aoff) (p := ⟨w.heap.size + 1, 0, none⟩)) (Nat.le_succ _) (.bool true) (p := ⟨w.heap.size + 1, 1, none⟩)) (Nat.le_succ _) (.string also) (p := ⟨w.heap.size + 1, 2, none⟩)
      revert q hbw
      generalize (((((w5.setCell ⟨w1.heap.size, 0, none⟩ (.int .i64 aoff)).setCell ⟨w1.heap.size, 1, none⟩ (.bool true)).setCell ⟨w1.heap.size, 2, none⟩ (.string also)).setCell ⟨w.heap.size + 1, 0, none⟩ (.int .i64 aoff)).setCell ⟨w.heap.size + 1, 1, none⟩ (.bool true)).setCell ⟨w.heap.size + 1, 2, none⟩ (.string also) = W'
      rintro ⟨q0, q1', q2'⟩ hbw
      refine bodyPost_ret (v := .tuple #[.agg #[.int .i64 aoff, .bool true, .string also], .int .i64 0]) (by simp [results, Tryd.results16, go_sem, q0, q1', q2']) rfl ⟨rfl, hbw⟩
    · have hdd : decide (t < S) = true := decide_eq_true (by omega)
      go_wp2_with (first | (go_at_call 36; refine (r_IsTime _ _).mono ?_; rintro e w' ⟨rfl, rfl⟩))
      refine (HF.out _).mono ?_
      rintro e w3 ⟨rfl, rfl⟩
      go_wp2_with fail
      refine (HD.out _).mono ?_
      rintro e w4 ⟨rfl, hb⟩
      have y1 := Lib.hid ((Bx.new _ _ _).step hb)
      have hg := HS.out.2.1.2.2
      have hne1 : ¬ w1.heap.size = w.heap.size + 1 := by omega
      have hne2 : ¬ w.heap.size + 1 = w1.heap.size := by omega
      replace HS := Lib.hid ((HS.out.alloc _).step hb)
      clear hb hcs hz
      have hcs := HS.out.1.1
      go_wp2_with fail
      refine (HT.out _).mono ?_
      rintro e w5 ⟨rfl, hb⟩
      replace HS := Lib.hid (HS.out.step hb)
      replace y1 := Lib.hid (y1.out.step hb)
      clear hb hcs
      have hcs := HS.out.1.1
      have hz := HS.out.1.2.2
      have hs1 := y1.out.1
      have hs2 := y1.out.2.1
      have hs3 := y1.out.2.2
      have hr := HS.out.2.1.1
      have hfr := HS.out.2.1.2.1
      have hsz := HS.out.2.1.2.2
      have hB := HS.out.2.2
      go_wp2_with fail
      have q := set3 (W := ((w5.setCell ⟨w1.heap.size, 0, none⟩ (.int .i64 aoff)).setCell ⟨w1.heap.size, 1, none⟩ (.bool true)).setCell ⟨w1.heap.size, 2, none⟩ (.string also)) (g := w.heap.size + 1) (x := .int .i64 aoff) (y := .bool true) (z := .string also) ((far3 hne1).trans (hr 0)) ((far3 hne1).trans (hr 1)) ((far3 hne1).trans (hr 2))
      have hbw := Below.setCell (Below.setCell (Below.setCell (Below.setCell (Below.setCell (Below.setCell hB (show w.heap.size ≤ w1.heap.size by omega) (.int .i64 aoff) (p := ⟨w1.heap.size, 0, none⟩)) (show w.heap.size ≤ w1.heap.size by omega) (.bool true) (p := ⟨w1.heap.size, 1, none⟩)) (show w.heap.size ≤ w1.heap.size by omega) (.string also) (p := ⟨w1.heap.size, 2, none⟩)) (Nat.le_succ _) (.int .i64 aoff) (p := ⟨w.heap.size + 1, 0, none⟩)) (Nat.le_succ _) (.bool true) (p := ⟨w.heap.size + 1, 1, none⟩)) (Nat.le_succ _) (.string also) (p := ⟨w.heap.size + 1, 2, none⟩)
      revert q hbw
      generalize (((((w5.setCell ⟨w1.heap.size, 0, none⟩ (.int .i64 aoff)).setCell ⟨w1.heap.size, 1, none⟩ (.bool true)).setCell ⟨w1.heap.size, 2, none⟩ (.string also)).setCell ⟨w.heap.size + 1, 0, none⟩ (.int .i64 aoff)).setCell ⟨w.heap.size + 1, 1, none⟩ (.bool true)).setCell ⟨w.heap.size + 1, 2, none⟩ (.string also) = W'
      rintro ⟨q0, q1', q2'⟩ hbw
      refine bodyPost_ret (v := .tuple #[.agg #[.int .i64 aoff, .bool true, .string also], .int .i64 0]) (by simp [results, Tryd.results16, go_sem, q0, q1', q2']) rfl ⟨rfl, hbw⟩


  · rw [H6.out] at hi; cases hi
end Go.Proofs.YtelgehpfjpbboaaDoor
