/- Walk of rite.At. -/
import Derived.Test.YtelgehpfjpbboaaDoorRaP
import Derived.Test.YtelgehpfjpbboaaDoorStA
import Derived.Test.YtelgehpfjpbboaaDoorRiB
import Derived.Test.YtelgehpfjpbboaaDoorRaB
namespace Go.Proofs.YtelgehpfjpbboaaDoor
open Go.RowKit
set_option linter.unusedVariables false
set_option maxRecDepth 100000 in
set_option maxHeartbeats 2000000 in
theorem i_At_bad (name also : ByteArray) (off aoff m1 k1 d1 a1 m2 k2 d2 a2 t : Int) (hn : name.size ≤ maxLen) (hl : also.size ≤ maxLen) (h : ¬ posE name off also aoff m1 k1 d1 a1 m2 k2 d2 a2 = 0) (w : World) :
    Calls Tryd.prog 15 #[.agg #[.string name, .int .i64 off, .string also, .int .i64 aoff, .int .i64 m1, .int .i64 k1, .int .i64 d1, .int .i64 a1, .int .i64 m2, .int .i64 k2, .int .i64 d2, .int .i64 a2], .int .i64 t] w fun e w' => e = .returned (.tuple #[.agg #[.int .i64 0, .bool false, .string ⟨#[]⟩], .int .i64 (posE name off also aoff m1 k1 d1 a1 m2 k2 d2 a2)]) ∧ Below w.heap.size w w' := by
  have HS := Lib.hid (RS.start w #[.string name, .int .i64 off, .string also, .int .i64 aoff, .int .i64 m1, .int .i64 k1, .int .i64 d1, .int .i64 a1, .int .i64 m2, .int .i64 k2, .int .i64 d2, .int .i64 a2] 25 36)
  go_enter Tryd.func15, Tryd.ntmps15
  go_wp2_with fail
  refine (i_Check _ _ _ _ _ _ _ _ _ _ _ _ hn hl _).mono ?_
  rintro e w1 ⟨rfl, hb⟩
  replace HS := Lib.hid (HS.out.step hb)
  clear hb
  have hcs := HS.out.1.1
  have hr := HS.out.2.1.1
  have hfr := HS.out.2.1.2.1
  have hsz := HS.out.2.1.2.2
  have hB := HS.out.2.2
  go_wp2_with fail
  refine bodyPost_ret (v := .tuple #[.agg #[.int .i64 0, .bool false, .string ⟨#[]⟩], .int .i64 (posE name off also aoff m1 k1 d1 a1 m2 k2 d2 a2)]) (by first | (simp [results, Tryd.results15, go_sem, hr]; done) | (simp [results, Tryd.results15, go_sem, hr, hsz, hz, cell_old, size_alloc]; done)) rfl ⟨rfl, (by repeat (first | exact Below.refl _ _ | assumption | apply Below.drew | apply below_drewN | (refine Below.alloc ?_ (by simp; try omega) _) | (refine Below.setCell ?_ (by simp; try omega) _)))⟩
set_option maxRecDepth 100000 in
set_option maxHeartbeats 2000000 in
theorem i_At_t1 (name also : ByteArray) (off aoff m1 k1 d1 a1 m2 k2 d2 a2 t : Int) (hn : name.size ≤ maxLen) (hl : also.size ≤ maxLen) (w : World) (h1 : -9223372036854775808 ≤ t) (h2 : t ≤ 9223372036854775807) (HI : ∀ W y, Below w.heap.size w W → y < 10000 → ItoaIn W y) (h : posE name off also aoff m1 k1 d1 a1 m2 k2 d2 a2 = 0) (h3 : dateOk (t / 86400) = false) :
    Calls Tryd.prog 15 #[.agg #[.string name, .int .i64 off, .string also, .int .i64 aoff, .int .i64 m1, .int .i64 k1, .int .i64 d1, .int .i64 a1, .int .i64 m2, .int .i64 k2, .int .i64 d2, .int .i64 a2], .int .i64 t] w fun e w' => e = .returned (.tuple #[.agg #[.int .i64 0, .bool false, .string ⟨#[]⟩], .int .i64 (1)]) ∧ Below w.heap.size w w' := by
  have HS := Lib.hid (RS.start w #[.string name, .int .i64 off, .string also, .int .i64 aoff, .int .i64 m1, .int .i64 k1, .int .i64 d1, .int .i64 a1, .int .i64 m2, .int .i64 k2, .int .i64 d2, .int .i64 a2] 25 36)
  have HK := Lib.hid (fun W => k_Stamp_no t h1 h2 h3 W)
  clear h1 h2 h3 HI
  go_enter Tryd.func15, Tryd.ntmps15
  go_wp2_with fail
  refine (i_Check _ _ _ _ _ _ _ _ _ _ _ _ hn hl _).mono ?_
  rintro e w1 ⟨rfl, hb⟩
  replace HS := Lib.hid (HS.out.step hb)
  clear hb
  have hcs := HS.out.1.1
  go_wp2_with fail
  go_loopw [36] (fun i wr => i = .int .i64 0 ∧ RS w wr #[.string name, .int .i64 off, .string also, .int .i64 aoff, .int .i64 m1, .int .i64 k1, .int .i64 d1, .int .i64 a1, .int .i64 m2, .int .i64 k2, .int .i64 d2, .int .i64 a2] ∧ wr.cell? ⟨w1.heap.size, 0, none⟩ = some (.int .i64 t) ∧ w1.heap.size < wr.heap.size) (fun _ _ => 0)
  case atStart => exact ⟨rfl, HS.out.alloc _, cell_new _ _ _ _ _ rfl, by rw [size_alloc]; omega⟩
  case round =>
    clear HS hcs
    obtain ⟨rfl, HS, c0, cz⟩ := hrel
    replace HS := Lib.hid HS
    go_wp2_with fail
    refine (HK.out _).mono ?_
    rintro e w2 ⟨rfl, hb⟩
    replace HS := Lib.hid (HS.out.step hb)
    clear hb c0 cz
    have hr := HS.out.2.1.1
    have hfr := HS.out.2.1.2.1
    have hsz := HS.out.2.1.2.2
    have hB := HS.out.2.2
    go_wp2_with fail
    refine bodyPost_ret (v := .tuple #[.agg #[.int .i64 0, .bool false, .string ⟨#[]⟩], .int .i64 (1)]) (by first | (simp [results, Tryd.results15, go_sem, hr]; done) | (simp [results, Tryd.results15, go_sem, hr, hsz, hz, cell_old, size_alloc]; done)) rfl ⟨rfl, (by repeat (first | exact Below.refl _ _ | assumption | apply Below.drew | apply below_drewN | (refine Below.alloc ?_ (by simp; try omega) _) | (refine Below.setCell ?_ (by simp; try omega) _)))⟩
set_option maxRecDepth 100000 in
set_option maxHeartbeats 2000000 in
theorem i_At_t2 (name also : ByteArray) (off aoff m1 k1 d1 a1 m2 k2 d2 a2 t : Int) (hn : name.size ≤ maxLen) (hl : also.size ≤ maxLen) (w : World) (HI : ∀ W y, Below w.heap.size w W → y < 10000 → ItoaIn W y) (ho : -64800 ≤ off ∧ off ≤ 64800) (h : posE name off also aoff m1 k1 d1 a1 m2 k2 d2 a2 = 0) (h3 : dateOk (t / 86400) = true) (h4 : dateOk ((t + off) / 86400) = false) :
    Calls Tryd.prog 15 #[.agg #[.string name, .int .i64 off, .string also, .int .i64 aoff, .int .i64 m1, .int .i64 k1, .int .i64 d1, .int .i64 a1, .int .i64 m2, .int .i64 k2, .int .i64 d2, .int .i64 a2], .int .i64 t] w fun e w' => e = .returned (.tuple #[.agg #[.int .i64 0, .bool false, .string ⟨#[]⟩], .int .i64 (1)]) ∧ Below w.heap.size w w' := by
  have HS := Lib.hid (RS.start w #[.string name, .int .i64 off, .string also, .int .i64 aoff, .int .i64 m1, .int .i64 k1, .int .i64 d1, .int .i64 a1, .int .i64 m2, .int .i64 k2, .int .i64 d2, .int .i64 a2] 25 36)
  have hd := dateOk_iff.1 h3
  obtain ⟨o1, o2⟩ := ho
  obtain ⟨t1, t2⟩ : -20000000000 ≤ t ∧ t ≤ 20000000000 := by omega
  have HI' := Lib.hid HI
  have HK0 := Lib.hid (fun W (hi : ∀ y, y < 10000 → ItoaIn W y) => st_calls_ok t (by omega) (by omega) h3 W hi)
  have HK1 := Lib.hid (fun W => k_Stamp_no (t + off) (by omega) (by omega) h4 W)
  clear h3 h4 hd
  go_enter Tryd.func15, Tryd.ntmps15
  go_wp2_with fail
  refine (i_Check _ _ _ _ _ _ _ _ _ _ _ _ hn hl _).mono ?_
  rintro e w1 ⟨rfl, hb⟩
  replace HS := Lib.hid (HS.out.step hb)
  clear hb
  have hcs := HS.out.1.1
  go_wp2_with fail
  go_loopw [36] (fun i wr => ∃ k : Nat, k ≤ 1 ∧ i = .int .i64 k ∧ RS w wr #[.string name, .int .i64 off, .string also, .int .i64 aoff, .int .i64 m1, .int .i64 k1, .int .i64 d1, .int .i64 a1, .int .i64 m2, .int .i64 k2, .int .i64 d2, .int .i64 a2] ∧ wr.cell? ⟨w1.heap.size, 0, none⟩ = some (.int .i64 t) ∧ wr.cell? ⟨w1.heap.size, 1, none⟩ = some (.int .i64 (t + off)) ∧ w1.heap.size < wr.heap.size) (fun i _ => 1 - (intOf i).toNat)
  case atStart => exact ⟨0, by omega, rfl, HS.out.alloc _, cell_new _ _ _ _ _ rfl, cell_new _ _ _ _ _ rfl, by rw [size_alloc]; omega⟩
  case round =>
    clear HS hcs
    obtain ⟨k, hk, rfl, HS, c0, c1, cz⟩ := hrel
    replace HS := Lib.hid HS
    have hI := Lib.hid (fun y (hy : y < 10000) => HI wr y HS.out.2.2 hy)
    have HC := Lib.hid (show wr.cell? ⟨w1.heap.size, 0, none⟩ = some (.int .i64 t) ∧ wr.cell? ⟨w1.heap.size, 1, none⟩ = some (.int .i64 (t + off)) ∧ w1.heap.size < wr.heap.size from ⟨c0, c1, cz⟩)
    have hk3 : k = 0 ∨ k = 1 ∨ k = 2 := by omega
    rcases hk3 with rfl | rfl | rfl
    · go_wp2_with fail
      refine (HK0.out _ hI.out).mono ?_
      rintro e w2 ⟨rfl, hb⟩
      have HH := HS.out.step hb
      have HC2 := lit_step HC.out hb
      clear hb c0 c1 cz
      go_wp2_with fail
      exact ⟨⟨1, by omega, by go_num, HH, HC2.1, HC2.2.1, HC2.2.2⟩, by simp [intOf]⟩
    · go_wp2_with fail
      refine (HK1.out _).mono ?_
      rintro e w2 ⟨rfl, hb⟩
      replace HS := Lib.hid (HS.out.step hb)
      clear hb c0 c1 cz
      have hr := HS.out.2.1.1
      have hfr := HS.out.2.1.2.1
      have hsz := HS.out.2.1.2.2
      have hB := HS.out.2.2
      go_wp2_with fail
      refine bodyPost_ret (v := .tuple #[.agg #[.int .i64 0, .bool false, .string ⟨#[]⟩], .int .i64 (1)]) (by first | (simp [results, Tryd.results15, go_sem, hr]; done) | (simp [results, Tryd.results15, go_sem, hr, hsz, hz, cell_old, size_alloc]; done)) rfl ⟨rfl, (by repeat (first | exact Below.refl _ _ | assumption | apply Below.drew | apply below_drewN | (refine Below.alloc ?_ (by simp; try omega) _) | (refine Below.setCell ?_ (by simp; try omega) _)))⟩
    · omega
set_option maxRecDepth 100000 in
set_option maxHeartbeats 2000000 in
theorem i_At_none (name also : ByteArray) (off aoff m1 k1 d1 a1 m2 k2 d2 a2 t : Int) (hn : name.size ≤ maxLen) (hl : also.size ≤ maxLen) (w : World) (HI : ∀ W y, Below w.heap.size w W → y < 10000 → ItoaIn W y) (ho : -64800 ≤ off ∧ off ≤ 64800) (h : posE name off also aoff m1 k1 d1 a1 m2 k2 d2 a2 = 0) (h3 : dateOk (t / 86400) = true) (h4 : dateOk ((t + off) / 86400) = true) (h5 : also.size = 0) :
    Calls Tryd.prog 15 #[.agg #[.string name, .int .i64 off, .string also, .int .i64 aoff, .int .i64 m1, .int .i64 k1, .int .i64 d1, .int .i64 a1, .int .i64 m2, .int .i64 k2, .int .i64 d2, .int .i64 a2], .int .i64 t] w fun e w' => e = .returned (.tuple #[.agg #[.int .i64 off, .bool false, .string name], .int .i64 (0)]) ∧ Below w.heap.size w w' := by
  have HS := Lib.hid (RS.start w #[.string name, .int .i64 off, .string also, .int .i64 aoff, .int .i64 m1, .int .i64 k1, .int .i64 d1, .int .i64 a1, .int .i64 m2, .int .i64 k2, .int .i64 d2, .int .i64 a2] 25 36)
  have hd := dateOk_iff.1 h3
  obtain ⟨o1, o2⟩ := ho
  obtain ⟨t1, t2⟩ : -20000000000 ≤ t ∧ t ≤ 20000000000 := by omega
  have HI' := Lib.hid HI
  have HK0 := Lib.hid (fun W (hi : ∀ y, y < 10000 → ItoaIn W y) => st_calls_ok t (by omega) (by omega) h3 W hi)
  have HK1 := Lib.hid (fun W (hi : ∀ y, y < 10000 → ItoaIn W y) => st_calls_ok (t + off) (by omega) (by omega) h4 W hi)
  have q1 := em_list h5
  have q2 := em_isEmpty h5
  clear h3 h4 h5 hd
  go_enter Tryd.func15, Tryd.ntmps15
  go_wp2_with fail
  refine (i_Check _ _ _ _ _ _ _ _ _ _ _ _ hn hl _).mono ?_
  rintro e w1 ⟨rfl, hb⟩
  replace HS := Lib.hid (HS.out.step hb)
  clear hb
  have hcs := HS.out.1.1
  go_wp2_with fail
  go_loopw [36] (fun i wr => ∃ k : Nat, k ≤ 2 ∧ i = .int .i64 k ∧ RS w wr #[.string name, .int .i64 off, .string also, .int .i64 aoff, .int .i64 m1, .int .i64 k1, .int .i64 d1, .int .i64 a1, .int .i64 m2, .int .i64 k2, .int .i64 d2, .int .i64 a2] ∧ wr.cell? ⟨w1.heap.size, 0, none⟩ = some (.int .i64 t) ∧ wr.cell? ⟨w1.heap.size, 1, none⟩ = some (.int .i64 (t + off)) ∧ w1.heap.size < wr.heap.size) (fun i _ => 2 - (intOf i).toNat)
  case atStart => exact ⟨0, by omega, rfl, HS.out.alloc _, cell_new _ _ _ _ _ rfl, cell_new _ _ _ _ _ rfl, by rw [size_alloc]; omega⟩
  case round =>
    clear HS hcs
    obtain ⟨k, hk, rfl, HS, c0, c1, cz⟩ := hrel
    replace HS := Lib.hid HS
    have hI := Lib.hid (fun y (hy : y < 10000) => HI wr y HS.out.2.2 hy)
    have HC := Lib.hid (show wr.cell? ⟨w1.heap.size, 0, none⟩ = some (.int .i64 t) ∧ wr.cell? ⟨w1.heap.size, 1, none⟩ = some (.int .i64 (t + off)) ∧ w1.heap.size < wr.heap.size from ⟨c0, c1, cz⟩)
    have hk3 : k = 0 ∨ k = 1 ∨ k = 2 := by omega
    rcases hk3 with rfl | rfl | rfl
    · go_wp2_with fail
      refine (HK0.out _ hI.out).mono ?_
      rintro e w2 ⟨rfl, hb⟩
      have HH := HS.out.step hb
      have HC2 := lit_step HC.out hb
      clear hb c0 c1 cz
      go_wp2_with fail
      exact ⟨⟨1, by omega, by go_num, HH, HC2.1, HC2.2.1, HC2.2.2⟩, by simp [intOf]⟩
    · go_wp2_with fail
      refine (HK1.out _ hI.out).mono ?_
      rintro e w2 ⟨rfl, hb⟩
      have HH := HS.out.step hb
      have HC2 := lit_step HC.out hb
      clear hb c0 c1 cz
      go_wp2_with fail
      exact ⟨⟨2, by omega, by go_num, HH, HC2.1, HC2.2.1, HC2.2.2⟩, by simp [intOf]⟩
    · have hcs := HS.out.1.1
      have hz := HS.out.1.2.2
      have hr := HS.out.2.1.1
      have hfr := HS.out.2.1.2.1
      have hsz := HS.out.2.1.2.2
      have hB := HS.out.2.2
      go_wp2_with fail
      refine bodyPost_ret (v := .tuple #[.agg #[.int .i64 off, .bool false, .string name], .int .i64 (0)]) (by simp [results, Tryd.results15, go_sem, hr, hsz, hz, cell_old]) rfl ⟨rfl, (by repeat (first | exact Below.refl _ _ | assumption | apply Below.drew | apply below_drewN | (refine Below.alloc ?_ (by simp; try omega) _) | (refine Below.setCell ?_ (by simp; try omega) _)))⟩
set_option maxRecDepth 100000 in
set_option maxHeartbeats 2000000 in
theorem i_At_yes (name also : ByteArray) (off aoff m1 k1 d1 a1 m2 k2 d2 a2 t : Int) (hn : name.size ≤ maxLen) (hl : also.size ≤ maxLen) (w : World) (HI : ∀ W y, Below w.heap.size w W → y < 10000 → ItoaIn W y) (ho : -64800 ≤ off ∧ off ≤ 64800) (h : posE name off also aoff m1 k1 d1 a1 m2 k2 d2 a2 = 0) (h3 : dateOk (t / 86400) = true) (h4 : dateOk ((t + off) / 86400) = true) (h5 : 1 ≤ also.size) (h6 : raIs t (raS m1 k1 d1 a1 off (dYear ((t + off) / 86400))) (raS m2 k2 d2 a2 aoff (dYear ((t + off) / 86400))) = true) (h7 : off + 1 ≤ aoff ∧ aoff ≤ off + 10800) (r1 : riOk m1 k1 d1 a1 = true) (r2 : riOk m2 k2 d2 a2 = true) :
    Calls Tryd.prog 15 #[.agg #[.string name, .int .i64 off, .string also, .int .i64 aoff, .int .i64 m1, .int .i64 k1, .int .i64 d1, .int .i64 a1, .int .i64 m2, .int .i64 k2, .int .i64 d2, .int .i64 a2], .int .i64 t] w fun e w' => e = .returned (.tuple #[.agg #[.int .i64 aoff, .bool true, .string also], .int .i64 (0)]) ∧ Below w.heap.size w w' := by
  have HS := Lib.hid (RS.start w #[.string name, .int .i64 off, .string also, .int .i64 aoff, .int .i64 m1, .int .i64 k1, .int .i64 d1, .int .i64 a1, .int .i64 m2, .int .i64 k2, .int .i64 d2, .int .i64 a2] 25 36)
  have hd := dateOk_iff.1 h3
  obtain ⟨o1, o2⟩ := ho
  obtain ⟨t1, t2⟩ : -20000000000 ≤ t ∧ t ≤ 20000000000 := by omega
  have HI' := Lib.hid HI
  have HK0 := Lib.hid (fun W (hi : ∀ y, y < 10000 → ItoaIn W y) => st_calls_ok t (by omega) (by omega) h3 W hi)
  have HK1 := Lib.hid (fun W (hi : ∀ y, y < 10000 → ItoaIn W y) => st_calls_ok (t + off) (by omega) (by omega) h4 W hi)
  have q1 := ne_list h5
  have q2 := ne_isEmpty h5
  have hy := year_in h4
  have sb := raS_bd r1 hy (show -100000 ≤ off ∧ off ≤ 100000 by omega)
  have eb := raS_bd r2 hy (show -100000 ≤ aoff ∧ aoff ≤ 100000 by omega)
  have hT := fun w => i_turns_in name also off aoff m1 k1 d1 a1 m2 k2 d2 a2 (dYear ((t + off) / 86400)) ⟨o1, o2⟩ h7 r1 r2 hy w
  obtain ⟨n, hN⟩ : ∃ n, (t + off) / 86400 = n := ⟨_, rfl⟩
  rw [hN] at hT sb eb h6 h4
  have HD := Lib.hid (fun w => c_Date_yes n h4 w)
  obtain ⟨S, hS⟩ : ∃ S, raS m1 k1 d1 a1 off (dYear n) = S := ⟨_, rfl⟩
  obtain ⟨T, hTT⟩ : ∃ T, raS m2 k2 d2 a2 aoff (dYear n) = T := ⟨_, rfl⟩
  have hT' : ∀ w, Calls Tryd.prog 35 #[.agg #[.string name, .int .i64 off, .string also, .int .i64 aoff, .int .i64 m1, .int .i64 k1, .int .i64 d1, .int .i64 a1, .int .i64 m2, .int .i64 k2, .int .i64 d2, .int .i64 a2], .int .i64 (dYear n)] w fun e w' => e = .returned (.tuple #[.int .i64 S, .int .i64 T, .int .i64 0]) ∧ Below w.heap.size w w' := by
    intro w; rw [← hS, ← hTT]; exact hT w
  rw [hS, hTT] at h6
  rw [hS] at sb
  rw [hTT] at eb
  have HT := Lib.hid hT'
  have HF := Lib.hid (fun w => k_Floor (t + off) (by omega) (by omega) w)
  obtain ⟨sb1, sb2⟩ := sb
  obtain ⟨eb1, eb2⟩ := eb
  have HW := Lib.hid (ra_ways t S T)
  have H6 := Lib.hid h6
  clear h3 h4 h5 hd h6 h7 r1 r2 hy hT hT' hS hTT
  go_enter Tryd.func15, Tryd.ntmps15
  go_wp2_with fail
  refine (i_Check _ _ _ _ _ _ _ _ _ _ _ _ hn hl _).mono ?_
  rintro e w1 ⟨rfl, hb⟩
  replace HS := Lib.hid (HS.out.step hb)
  clear hb
  have hcs := HS.out.1.1
  go_wp2_with fail
  go_loopw [36] (fun i wr => ∃ k : Nat, k ≤ 2 ∧ i = .int .i64 k ∧ RS w wr #[.string name, .int .i64 off, .string also, .int .i64 aoff, .int .i64 m1, .int .i64 k1, .int .i64 d1, .int .i64 a1, .int .i64 m2, .int .i64 k2, .int .i64 d2, .int .i64 a2] ∧ wr.cell? ⟨w1.heap.size, 0, none⟩ = some (.int .i64 t) ∧ wr.cell? ⟨w1.heap.size, 1, none⟩ = some (.int .i64 (t + off)) ∧ w1.heap.size < wr.heap.size) (fun i _ => 2 - (intOf i).toNat)
  case atStart => exact ⟨0, by omega, rfl, HS.out.alloc _, cell_new _ _ _ _ _ rfl, cell_new _ _ _ _ _ rfl, by rw [size_alloc]; omega⟩
  case round =>
    clear HS hcs
    obtain ⟨k, hk, rfl, HS, c0, c1, cz⟩ := hrel
    replace HS := Lib.hid HS
    have hI := Lib.hid (fun y (hy : y < 10000) => HI wr y HS.out.2.2 hy)
    have HC := Lib.hid (show wr.cell? ⟨w1.heap.size, 0, none⟩ = some (.int .i64 t) ∧ wr.cell? ⟨w1.heap.size, 1, none⟩ = some (.int .i64 (t + off)) ∧ w1.heap.size < wr.heap.size from ⟨c0, c1, cz⟩)
    have hk3 : k = 0 ∨ k = 1 ∨ k = 2 := by omega
    rcases hk3 with rfl | rfl | rfl
    · go_wp2_with fail
      refine (HK0.out _ hI.out).mono ?_
      rintro e w2 ⟨rfl, hb⟩
      have HH := HS.out.step hb
      have HC2 := lit_step HC.out hb
      clear hb c0 c1 cz
      go_wp2_with fail
      exact ⟨⟨1, by omega, by go_num, HH, HC2.1, HC2.2.1, HC2.2.2⟩, by simp [intOf]⟩
    · go_wp2_with fail
      refine (HK1.out _ hI.out).mono ?_
      rintro e w2 ⟨rfl, hb⟩
      have HH := HS.out.step hb
      have HC2 := lit_step HC.out hb
      clear hb c0 c1 cz
      go_wp2_with fail
      exact ⟨⟨2, by omega, by go_num, HH, HC2.1, HC2.2.1, HC2.2.2⟩, by simp [intOf]⟩
    · clear HC c0 c1 cz hI
      obtain ⟨g1, g2, g4, g5, gb⟩ := boxes2 wr #[.int .i64 off, .bool false, .string name] #[.int .i64 aoff, .bool true, .string also] 36 36
      have y1 := Lib.hid (show Bx wr.heap.size _ _ from ⟨g1, fun i => by rw [frozen_old _ _ _ (by rw [size_alloc]; exact Nat.lt_succ_self _), frozen_new _ _ _ _ _ rfl], by rw [g5]; omega⟩)
      have y2 := Lib.hid (show Bx (wr.heap.size + 1) _ _ from ⟨g2, g4, by rw [g5]; omega⟩)
      have hcs := HS.out.1.1
      have hz := HS.out.1.2.2
      replace HS := Lib.hid (HS.out.step gb)
      clear g1 g2 g4 g5 gb
      rcases HW.out with ⟨hi, ws⟩ | ⟨hi, ws⟩
      · clear hi
        rcases ws with ⟨v1, v2, v3⟩ | ⟨v1, v2⟩ | ⟨v1, v2, v3⟩
        all_goals
          go_wp2_with fail
          refine (HF.out _).mono ?_
          rintro e w3 ⟨rfl, hb⟩
          replace HS := Lib.hid (HS.out.step hb)
          replace y1 := Lib.hid (y1.out.step hb)
          replace y2 := Lib.hid (y2.out.step hb)
          clear hb hcs
          go_wp2_with fail
          refine (HD.out _).mono ?_
          rintro e w4 ⟨rfl, rfl⟩
          have hcs := HS.out.1.1
          go_wp2_with fail
          refine (HT.out _).mono ?_
          rintro e w5 ⟨rfl, hb⟩
          replace HS := Lib.hid (HS.out.step hb)
          replace y1 := Lib.hid (y1.out.step hb)
          replace y2 := Lib.hid (y2.out.step hb)
          clear hb hcs
          have hs1 := y1.out.1
          have hs2 := y2.out.1
          have hr := HS.out.2.1.1
          have hfr := HS.out.2.1.2.1
          have hsz := HS.out.2.1.2.2
          have hB := HS.out.2.2
          go_wp2_with fail
          refine bodyPost_ret (v := .tuple #[.agg #[.int .i64 aoff, .bool true, .string also], .int .i64 (0)]) (by first | (simp [results, Tryd.results15, go_sem, hr]; done) | (simp [results, Tryd.results15, go_sem, hr, hsz, hz, cell_old, size_alloc]; done)) rfl ⟨rfl, (by repeat (first | exact Below.refl _ _ | assumption | apply Below.drew | apply below_drewN | (refine Below.alloc ?_ (by simp; try omega) _) | (refine Below.setCell ?_ (by simp; try omega) _)))⟩

      · rw [H6.out] at hi; cases hi
set_option maxRecDepth 100000 in
set_option maxHeartbeats 2000000 in
theorem i_At_not (name also : ByteArray) (off aoff m1 k1 d1 a1 m2 k2 d2 a2 t : Int) (hn : name.size ≤ maxLen) (hl : also.size ≤ maxLen) (w : World) (HI : ∀ W y, Below w.heap.size w W → y < 10000 → ItoaIn W y) (ho : -64800 ≤ off ∧ off ≤ 64800) (h : posE name off also aoff m1 k1 d1 a1 m2 k2 d2 a2 = 0) (h3 : dateOk (t / 86400) = true) (h4 : dateOk ((t + off) / 86400) = true) (h5 : 1 ≤ also.size) (h6 : raIs t (raS m1 k1 d1 a1 off (dYear ((t + off) / 86400))) (raS m2 k2 d2 a2 aoff (dYear ((t + off) / 86400))) = false) (h7 : off + 1 ≤ aoff ∧ aoff ≤ off + 10800) (r1 : riOk m1 k1 d1 a1 = true) (r2 : riOk m2 k2 d2 a2 = true) :
    Calls Tryd.prog 15 #[.agg #[.string name, .int .i64 off, .string also, .int .i64 aoff, .int .i64 m1, .int .i64 k1, .int .i64 d1, .int .i64 a1, .int .i64 m2, .int .i64 k2, .int .i64 d2, .int .i64 a2], .int .i64 t] w fun e w' => e = .returned (.tuple #[.agg #[.int .i64 off, .bool false, .string name], .int .i64 (0)]) ∧ Below w.heap.size w w' := by
  have HS := Lib.hid (RS.start w #[.string name, .int .i64 off, .string also, .int .i64 aoff, .int .i64 m1, .int .i64 k1, .int .i64 d1, .int .i64 a1, .int .i64 m2, .int .i64 k2, .int .i64 d2, .int .i64 a2] 25 36)
  have hd := dateOk_iff.1 h3
  obtain ⟨o1, o2⟩ := ho
  obtain ⟨t1, t2⟩ : -20000000000 ≤ t ∧ t ≤ 20000000000 := by omega
  have HI' := Lib.hid HI
  have HK0 := Lib.hid (fun W (hi : ∀ y, y < 10000 → ItoaIn W y) => st_calls_ok t (by omega) (by omega) h3 W hi)
  have HK1 := Lib.hid (fun W (hi : ∀ y, y < 10000 → ItoaIn W y) => st_calls_ok (t + off) (by omega) (by omega) h4 W hi)
  have q1 := ne_list h5
  have q2 := ne_isEmpty h5
  have hy := year_in h4
  have sb := raS_bd r1 hy (show -100000 ≤ off ∧ off ≤ 100000 by omega)
  have eb := raS_bd r2 hy (show -100000 ≤ aoff ∧ aoff ≤ 100000 by omega)
  have hT := fun w => i_turns_in name also off aoff m1 k1 d1 a1 m2 k2 d2 a2 (dYear ((t + off) / 86400)) ⟨o1, o2⟩ h7 r1 r2 hy w
  obtain ⟨n, hN⟩ : ∃ n, (t + off) / 86400 = n := ⟨_, rfl⟩
  rw [hN] at hT sb eb h6 h4
  have HD := Lib.hid (fun w => c_Date_yes n h4 w)
  obtain ⟨S, hS⟩ : ∃ S, raS m1 k1 d1 a1 off (dYear n) = S := ⟨_, rfl⟩
  obtain ⟨T, hTT⟩ : ∃ T, raS m2 k2 d2 a2 aoff (dYear n) = T := ⟨_, rfl⟩
  have hT' : ∀ w, Calls Tryd.prog 35 #[.agg #[.string name, .int .i64 off, .string also, .int .i64 aoff, .int .i64 m1, .int .i64 k1, .int .i64 d1, .int .i64 a1, .int .i64 m2, .int .i64 k2, .int .i64 d2, .int .i64 a2], .int .i64 (dYear n)] w fun e w' => e = .returned (.tuple #[.int .i64 S, .int .i64 T, .int .i64 0]) ∧ Below w.heap.size w w' := by
    intro w; rw [← hS, ← hTT]; exact hT w
  rw [hS, hTT] at h6
  rw [hS] at sb
  rw [hTT] at eb
  have HT := Lib.hid hT'
  have HF := Lib.hid (fun w => k_Floor (t + off) (by omega) (by omega) w)
  obtain ⟨sb1, sb2⟩ := sb
  obtain ⟨eb1, eb2⟩ := eb
  have HW := Lib.hid (ra_ways t S T)
  have H6 := Lib.hid h6
  clear h3 h4 h5 hd h6 h7 r1 r2 hy hT hT' hS hTT
  go_enter Tryd.func15, Tryd.ntmps15
  go_wp2_with fail
  refine (i_Check _ _ _ _ _ _ _ _ _ _ _ _ hn hl _).mono ?_
  rintro e w1 ⟨rfl, hb⟩
  replace HS := Lib.hid (HS.out.step hb)
  clear hb
  have hcs := HS.out.1.1
  go_wp2_with fail
  go_loopw [36] (fun i wr => ∃ k : Nat, k ≤ 2 ∧ i = .int .i64 k ∧ RS w wr #[.string name, .int .i64 off, .string also, .int .i64 aoff, .int .i64 m1, .int .i64 k1, .int .i64 d1, .int .i64 a1, .int .i64 m2, .int .i64 k2, .int .i64 d2, .int .i64 a2] ∧ wr.cell? ⟨w1.heap.size, 0, none⟩ = some (.int .i64 t) ∧ wr.cell? ⟨w1.heap.size, 1, none⟩ = some (.int .i64 (t + off)) ∧ w1.heap.size < wr.heap.size) (fun i _ => 2 - (intOf i).toNat)
  case atStart => exact ⟨0, by omega, rfl, HS.out.alloc _, cell_new _ _ _ _ _ rfl, cell_new _ _ _ _ _ rfl, by rw [size_alloc]; omega⟩
  case round =>
    clear HS hcs
    obtain ⟨k, hk, rfl, HS, c0, c1, cz⟩ := hrel
    replace HS := Lib.hid HS
    have hI := Lib.hid (fun y (hy : y < 10000) => HI wr y HS.out.2.2 hy)
    have HC := Lib.hid (show wr.cell? ⟨w1.heap.size, 0, none⟩ = some (.int .i64 t) ∧ wr.cell? ⟨w1.heap.size, 1, none⟩ = some (.int .i64 (t + off)) ∧ w1.heap.size < wr.heap.size from ⟨c0, c1, cz⟩)
    have hk3 : k = 0 ∨ k = 1 ∨ k = 2 := by omega
    rcases hk3 with rfl | rfl | rfl
    · go_wp2_with fail
      refine (HK0.out _ hI.out).mono ?_
      rintro e w2 ⟨rfl, hb⟩
      have HH := HS.out.step hb
      have HC2 := lit_step HC.out hb
      clear hb c0 c1 cz
      go_wp2_with fail
      exact ⟨⟨1, by omega, by go_num, HH, HC2.1, HC2.2.1, HC2.2.2⟩, by simp [intOf]⟩
    · go_wp2_with fail
      refine (HK1.out _ hI.out).mono ?_
      rintro e w2 ⟨rfl, hb⟩
      have HH := HS.out.step hb
      have HC2 := lit_step HC.out hb
      clear hb c0 c1 cz
      go_wp2_with fail
      exact ⟨⟨2, by omega, by go_num, HH, HC2.1, HC2.2.1, HC2.2.2⟩, by simp [intOf]⟩
    · clear HC c0 c1 cz hI
      obtain ⟨g1, g2, g4, g5, gb⟩ := boxes2 wr #[.int .i64 off, .bool false, .string name] #[.int .i64 aoff, .bool true, .string also] 36 36
      have y1 := Lib.hid (show Bx wr.heap.size _ _ from ⟨g1, fun i => by rw [frozen_old _ _ _ (by rw [size_alloc]; exact Nat.lt_succ_self _), frozen_new _ _ _ _ _ rfl], by rw [g5]; omega⟩)
      have y2 := Lib.hid (show Bx (wr.heap.size + 1) _ _ from ⟨g2, g4, by rw [g5]; omega⟩)
      have hcs := HS.out.1.1
      have hz := HS.out.1.2.2
      replace HS := Lib.hid (HS.out.step gb)
      clear g1 g2 g4 g5 gb
      rcases HW.out with ⟨hi, ws⟩ | ⟨hi, ws⟩
      · rw [H6.out] at hi; cases hi
      · clear hi
        rcases ws with ⟨v1, v2, v3⟩ | ⟨v1, v2⟩ | ⟨v1, v2, v3⟩
        all_goals
          go_wp2_with fail
          refine (HF.out _).mono ?_
          rintro e w3 ⟨rfl, hb⟩
          replace HS := Lib.hid (HS.out.step hb)
          replace y1 := Lib.hid (y1.out.step hb)
          replace y2 := Lib.hid (y2.out.step hb)
          clear hb hcs
          go_wp2_with fail
          refine (HD.out _).mono ?_
          rintro e w4 ⟨rfl, rfl⟩
          have hcs := HS.out.1.1
          go_wp2_with fail
          refine (HT.out _).mono ?_
          rintro e w5 ⟨rfl, hb⟩
          replace HS := Lib.hid (HS.out.step hb)
          replace y1 := Lib.hid (y1.out.step hb)
          replace y2 := Lib.hid (y2.out.step hb)
          clear hb hcs
          have hs1 := y1.out.1
          have hs2 := y2.out.1
          have hr := HS.out.2.1.1
          have hfr := HS.out.2.1.2.1
          have hsz := HS.out.2.1.2.2
          have hB := HS.out.2.2
          go_wp2_with fail
          refine bodyPost_ret (v := .tuple #[.agg #[.int .i64 off, .bool false, .string name], .int .i64 (0)]) (by first | (simp [results, Tryd.results15, go_sem, hr]; done) | (simp [results, Tryd.results15, go_sem, hr, hsz, hz, cell_old, size_alloc]; done)) rfl ⟨rfl, (by repeat (first | exact Below.refl _ _ | assumption | apply Below.drew | apply below_drewN | (refine Below.alloc ?_ (by simp; try omega) _) | (refine Below.setCell ?_ (by simp; try omega) _)))⟩

end Go.Proofs.YtelgehpfjpbboaaDoor
