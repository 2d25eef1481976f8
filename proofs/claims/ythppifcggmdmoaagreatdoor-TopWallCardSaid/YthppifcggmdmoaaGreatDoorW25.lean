/- Part 25 of the proof of TopWall: no condition; what its declarations say stands at each. -/
import Derived.Test.YthppifcggmdmoaaGreatDoorW11
import Derived.Test.YthppifcggmdmoaaGreatDoorW09
import Derived.Test.YthppifcggmdmoaaGreatDoorW19
import Derived.Test.YthppifcggmdmoaaGreatDoorW16
namespace Go.Proofs.YthppifcggmdmoaaGreatDoor
open Go.RowKit
set_option linter.unusedVariables false
theorem pred_dig (w : World) : PredGrows Tryz.prog 146 #[] noDg w := by
 intro W x hx hB
 show Calls Tryz.prog _ #[.int .i32 (x : Int)] W _
 by_cases h1 : x < 48
 ·have e : noDg x = true := by simp [noDg, h1]
  rw [e]
  have h2 : (x : Int) < 48 := by omega
  go_enter Tryz.func146, Tryz.ntmps146
  go_wp2_with fail
  go_ret
  exact ⟨rfl, Below.refl _ _⟩
 ·by_cases h2 : 57 < x
  ·have e : noDg x = true := by simp [noDg, h2]
   rw [e]
   have h3 : ¬ (x : Int) < 48 := by omega
   have h4 : (57 : Int) < (x : Int) := by omega
   go_enter Tryz.func146, Tryz.ntmps146
   go_wp2_with fail
   go_ret
   exact ⟨rfl, Below.refl _ _⟩
  ·have e : noDg x = false := by simp [noDg]; omega
   rw [e]
   have h3 : ¬ (x : Int) < 48 := by omega
   have h4 : ¬ (57 : Int) < (x : Int) := by omega
   go_enter Tryz.func146, Tryz.ntmps146
   go_wp2_with fail
   go_ret
   exact ⟨rfl, Below.refl _ _⟩
theorem RdW.atoi {w : World} (h : RdW w) (s : ByteArray) (hs : s.size ≤ 281474976710656) :
  Calls Tryz.prog 92 #[.string s] w fun e w' => ∃ er, e = .returned (.tuple #[.int .i64 (atV s.data.toList), er]) ∧ Below w.heap.size w w' := by
 obtain ⟨⟨t1, p1, h1⟩, ⟨t2, p2, h2⟩, _⟩ := h
 exact atoi_any s hs t1 t2 p1 p2 w h1 h2
def stB (k : Nat) (v0 v1 v2 v3 v4 v5 : Int) : Array Value := #[.int .i64 (if 0 < k then v0 else 0), .int .i64 (if 1 < k then v1 else 0), .int .i64 (if 2 < k then v2 else 0), .int .i64 (if 3 < k then v3 else 0), .int .i64 (if 4 < k then v4 else 0), .int .i64 (if 5 < k then v5 else 0)]
theorem fld_size (s : ByteArray) : ∀ b ∈ Lib.goFieldsP noDg s, b.size ≤ s.size := by
 intro b hb
 obtain ⟨x, _, rfl⟩ := List.mem_map.1 hb
 rw [ByteArray.size_extract]; omega
theorem list6 {α : Type} {L : List α} (h : L.length = 6) : ∃ a b c d e f, L = [a, b, c, d, e, f] := by
 match L, h with
 | [a, b, c, d, e, f], _ => exact ⟨a, b, c, d, e, f, rfl⟩
theorem st_none {s : ByteArray} (h : ∀ t, dateOk (t / 86400) = true → stV t = s → False) : RdSt s 0 3 := Or.inr ⟨fun t h1 h2 => h t h1 h2, rfl, rfl⟩
theorem wrap64_bd (n : Int) : -9223372036854775808 ≤ wrap64 n ∧ wrap64 n ≤ 9223372036854775807 := by unfold wrap64; omega
theorem stamp_any (n : Int) (h1 : -9223372036854775808 ≤ n) (h2 : n ≤ 9223372036854775807) (w : World) (HI : ∀ h, h < 1000000 → ItoaIn w h) :
  Calls Tryz.prog 44 #[.int .i64 n] w fun e w' => ∃ u er, e = .returned (.tuple #[.string u, .int .i64 er]) ∧ ((dateOk (n / 86400) = true ∧ u = stV n ∧ er = 0) ∨ (dateOk (n / 86400) = false ∧ er = 1)) ∧ Below w.heap.size w w' := by
 refine (k_Stamp n h1 h2 w (fun y hy => HI y (by omega))).mono ?_
 rintro e w' ⟨rfl, hb⟩
 cases h : dateOk (n / 86400) with
 | true => exact ⟨_, _, rfl, Or.inl ⟨rfl, rfl, (st_ok h).2⟩, hb⟩
 | false => exact ⟨_, _, rfl, Or.inr ⟨rfl, (st_no h).2⟩, hb⟩
set_option maxRecDepth 100000 in
set_option maxHeartbeats 8000000 in
theorem k_ReadStamp (s : ByteArray) (hs : s.size ≤ 4294967296) (w : World) (R : RdW w) :
  Calls Tryz.prog 99 #[.string s] w fun e w' => ∃ a b, e = .returned (.tuple #[.int .i64 a, .int .i64 b]) ∧ RdSt s a b ∧ Below w.heap.size w w' := by
 have HG := Lib.hid (show ∀ t, dateOk (t / 86400) = true → stV t = s → ∃ Y M D H I S : Nat, (Lib.goFieldsP noDg s).map (fun b => atV b.data.toList) = [(Y : Int), (M : Int), (D : Int), (H : Int), (I : Int), (S : Int)] ∧ dayOk Y M D = true ∧ H ≤ 23 ∧ I ≤ 59 ∧ S ≤ 59 ∧ t = 86400 * daysN Y M D + 3600 * H + 60 * I + S from fun t h1 h2 => by obtain ⟨Y, M, D, H, I, S, f, a, b, c, d, e⟩ := st_form h1 h2; exact ⟨Y, M, D, H, I, S, form_words f, a, b, c, d, e⟩)
 have HS := Lib.hid (fld_size s)
 have HW := Lib.hid R
 clear R
 go_enter Tryz.func99, Tryz.ntmps99
 go_wp2_with fail
 refine (Tryz.strings_FieldsFunc_grows 146 #[] (enters_of Tryz.func146 (by kernel_rfl) rfl) noDg s _ hs (pred_dig _)).mono ?_
 rintro e w1 ⟨A, rfl, hA, hown, hb⟩
 have HBW := Lib.hid hb
 replace HW := Lib.hid (HW.out.on hb)
 clear hb
 have HC := Lib.hid (show ∀ k (h : k < (Lib.goFieldsP noDg s).length), w1.cell? ⟨A, k, none⟩ = some (.string (Lib.goFieldsP noDg s)[k]) from fun k h => by rw [hown.cellAt k (by omega)]; simp [h])
 have hAl := (hown.lt A rfl).2
 clear hown hA
 obtain ⟨L, hL⟩ : ∃ L, Lib.goFieldsP noDg s = L := ⟨_, rfl⟩
 rw [hL] at HG HS
 have HC' : ∀ k (h : k < L.length), w1.cell? ⟨A, k, none⟩ = some (.string L[k]) := by subst hL; exact HC.out
 replace HC := Lib.hid HC'
 rw [hL]
 clear HC' hL
 have HB := Lib.hid (Below.refl w1.heap.size w1)
 by_cases h6 : ¬ L.length = 6
 ·have h7 : ((L.length : Int) == 6) = false := by rw [beq_eq_false_iff_ne]; omega
  have HR := Lib.hid (st_none (fun t h1 h2 => by obtain ⟨Y, M, D, H, I, S, f, _⟩ := HG.out t h1 h2; have := congrArg List.length f; simp at this; exact h6 this))
  clear HG HS HC
  go_wp2_with fail
  go_ret2
  exact ⟨_, _, rfl, HR.out, HBW.out.trans (HB.out.mono HBW.out.size)⟩
 obtain ⟨l0, l1, l2, l3, l4, l5, rfl⟩ := list6 (show L.length = 6 by omega)
 clear h6
 have HC0 := Lib.hid (show w1.cell? ⟨A, 0, none⟩ = some (.string l0) from HC.out 0 (by simp))
 have HS0 := Lib.hid (HS.out l0 (by simp))
 have HC1 := Lib.hid (show w1.cell? ⟨A, 1, none⟩ = some (.string l1) from HC.out 1 (by simp))
 have HS1 := Lib.hid (HS.out l1 (by simp))
 have HC2 := Lib.hid (show w1.cell? ⟨A, 2, none⟩ = some (.string l2) from HC.out 2 (by simp))
 have HS2 := Lib.hid (HS.out l2 (by simp))
 have HC3 := Lib.hid (show w1.cell? ⟨A, 3, none⟩ = some (.string l3) from HC.out 3 (by simp))
 have HS3 := Lib.hid (HS.out l3 (by simp))
 have HC4 := Lib.hid (show w1.cell? ⟨A, 4, none⟩ = some (.string l4) from HC.out 4 (by simp))
 have HS4 := Lib.hid (HS.out l4 (by simp))
 have HC5 := Lib.hid (show w1.cell? ⟨A, 5, none⟩ = some (.string l5) from HC.out 5 (by simp))
 have HS5 := Lib.hid (HS.out l5 (by simp))
 clear HC HS
 simp only [List.map_cons, List.map_nil] at HG
 obtain ⟨v0, hv0⟩ : ∃ v, atV l0.data.toList = v := ⟨_, rfl⟩
 rw [hv0] at HG
 have HV0 := Lib.hid hv0
 clear hv0
 obtain ⟨v1, hv1⟩ : ∃ v, atV l1.data.toList = v := ⟨_, rfl⟩
 rw [hv1] at HG
 have HV1 := Lib.hid hv1
 clear hv1
 obtain ⟨v2, hv2⟩ : ∃ v, atV l2.data.toList = v := ⟨_, rfl⟩
 rw [hv2] at HG
 have HV2 := Lib.hid hv2
 clear hv2
 obtain ⟨v3, hv3⟩ : ∃ v, atV l3.data.toList = v := ⟨_, rfl⟩
 rw [hv3] at HG
 have HV3 := Lib.hid hv3
 clear hv3
 obtain ⟨v4, hv4⟩ : ∃ v, atV l4.data.toList = v := ⟨_, rfl⟩
 rw [hv4] at HG
 have HV4 := Lib.hid hv4
 clear hv4
 obtain ⟨v5, hv5⟩ : ∃ v, atV l5.data.toList = v := ⟨_, rfl⟩
 rw [hv5] at HG
 have HV5 := Lib.hid hv5
 clear hv5
 obtain ⟨gb, hgb⟩ : ∃ g, w1.heap.size = g := ⟨_, rfl⟩
 rw [hgb] at hAl HB
 have HGB := Lib.hid hgb
 have HD := Lib.hid (show Blk (w1.alloc (.cells (stB 0 v0 v1 v2 v3 v4 v5) 201)) gb 201 (stB 0 v0 v1 v2 v3 v4 v5) from Blk.new' w1 _ _ hgb.symm)
 replace HB := Lib.hid (HB.out.alloc (Nat.le_of_eq hgb.symm) (.cells (stB 0 v0 v1 v2 v3 v4 v5) 201))
 have hst : stB 0 v0 v1 v2 v3 v4 v5 = #[.int .i64 0, .int .i64 0, .int .i64 0, .int .i64 0, .int .i64 0, .int .i64 0] := rfl
 rw [hst] at HD HB
 clear hst
 obtain ⟨W, hW⟩ : ∃ W, w1.alloc (.cells #[.int .i64 0, .int .i64 0, .int .i64 0, .int .i64 0, .int .i64 0, .int .i64 0] 201) = W := ⟨_, rfl⟩
 rw [hW] at HD HB
 have h7 : (([l0, l1, l2, l3, l4, l5] : List ByteArray).length : Int) = 6 := rfl
 go_wp2_with fail
 try rw [hgb]
 try rw [hW]
 clear hW hgb
 go_loopw [20] (fun i wr => ∃ k : Nat, k ≤ 6 ∧ i = .int .i64 k ∧ Below gb w1 wr ∧ Blk wr gb 201 (stB k v0 v1 v2 v3 v4 v5)) (fun i _ => 6 - (intOf i).toNat)
 case atStart => exact ⟨0, by omega, rfl, HB.out, HD.out⟩
 case round =>
  clear HB HD
  obtain ⟨k, hk, rfl, hB, hD⟩ := hrel
  have HB := Lib.hid hB
  have HD := Lib.hid hD
  clear hB hD
  rcases (show k = 0 ∨ k = 1 ∨ k = 2 ∨ k = 3 ∨ k = 4 ∨ k = 5 ∨ k = 6 by omega) with rfl | rfl | rfl | rfl | rfl | rfl | rfl
  ·have c0 : wr.cell? ⟨A, 0, none⟩ = some (.string l0) := (HB.out.cell hAl).trans HC0.out
   have HA := Lib.hid ((HW.out.on (by rw [HGB.out]; exact HB.out)).atoi l0 (by have := HS0.out; omega))
   rw [HV0.out] at HA
   have zl := HD.out.lt
   go_wp2_with fail
   refine HA.out.mono ?_
   rintro e w2 ⟨er, rfl, hb⟩
   replace HB := Lib.hid (HB.out.trans (hb.mono (Nat.le_of_lt zl)))
   replace HD := Lib.hid (HD.out.step hb)
   clear hb HA c0 zl
   have f0 := HD.out.cell 0
   have z0 := HD.out.frz 0
   have zl := HD.out.lt
   simp [stB] at f0
   go_wp2_with fail
   exact ⟨⟨1, by omega, by go_num, HB.out.setCell (show gb ≤ (⟨gb, 0, none⟩ : Addr).block from Nat.le_refl gb) _, show Blk _ gb 201 (stB 1 v0 v1 v2 v3 v4 v5) from HD.out.set 0 (.int .i64 v0)⟩, by simp only [intOf]; omega⟩
  ·have c0 : wr.cell? ⟨A, 1, none⟩ = some (.string l1) := (HB.out.cell hAl).trans HC1.out
   have HA := Lib.hid ((HW.out.on (by rw [HGB.out]; exact HB.out)).atoi l1 (by have := HS1.out; omega))
   rw [HV1.out] at HA
   have zl := HD.out.lt
   go_wp2_with fail
   refine HA.out.mono ?_
   rintro e w2 ⟨er, rfl, hb⟩
   replace HB := Lib.hid (HB.out.trans (hb.mono (Nat.le_of_lt zl)))
   replace HD := Lib.hid (HD.out.step hb)
   clear hb HA c0 zl
   have f0 := HD.out.cell 1
   have z0 := HD.out.frz 1
   have zl := HD.out.lt
   simp [stB] at f0
   go_wp2_with fail
   exact ⟨⟨2, by omega, by go_num, HB.out.setCell (show gb ≤ (⟨gb, 1, none⟩ : Addr).block from Nat.le_refl gb) _, show Blk _ gb 201 (stB 2 v0 v1 v2 v3 v4 v5) from HD.out.set 1 (.int .i64 v1)⟩, by simp only [intOf]; omega⟩
  ·have c0 : wr.cell? ⟨A, 2, none⟩ = some (.string l2) := (HB.out.cell hAl).trans HC2.out
   have HA := Lib.hid ((HW.out.on (by rw [HGB.out]; exact HB.out)).atoi l2 (by have := HS2.out; omega))
   rw [HV2.out] at HA
   have zl := HD.out.lt
   go_wp2_with fail
   refine HA.out.mono ?_
   rintro e w2 ⟨er, rfl, hb⟩
   replace HB := Lib.hid (HB.out.trans (hb.mono (Nat.le_of_lt zl)))
   replace HD := Lib.hid (HD.out.step hb)
   clear hb HA c0 zl
   have f0 := HD.out.cell 2
   have z0 := HD.out.frz 2
   have zl := HD.out.lt
   simp [stB] at f0
   go_wp2_with fail
   exact ⟨⟨3, by omega, by go_num, HB.out.setCell (show gb ≤ (⟨gb, 2, none⟩ : Addr).block from Nat.le_refl gb) _, show Blk _ gb 201 (stB 3 v0 v1 v2 v3 v4 v5) from HD.out.set 2 (.int .i64 v2)⟩, by simp only [intOf]; omega⟩
  ·have c0 : wr.cell? ⟨A, 3, none⟩ = some (.string l3) := (HB.out.cell hAl).trans HC3.out
   have HA := Lib.hid ((HW.out.on (by rw [HGB.out]; exact HB.out)).atoi l3 (by have := HS3.out; omega))
   rw [HV3.out] at HA
   have zl := HD.out.lt
   go_wp2_with fail
   refine HA.out.mono ?_
   rintro e w2 ⟨er, rfl, hb⟩
   replace HB := Lib.hid (HB.out.trans (hb.mono (Nat.le_of_lt zl)))
   replace HD := Lib.hid (HD.out.step hb)
   clear hb HA c0 zl
   have f0 := HD.out.cell 3
   have z0 := HD.out.frz 3
   have zl := HD.out.lt
   simp [stB] at f0
   go_wp2_with fail
   exact ⟨⟨4, by omega, by go_num, HB.out.setCell (show gb ≤ (⟨gb, 3, none⟩ : Addr).block from Nat.le_refl gb) _, show Blk _ gb 201 (stB 4 v0 v1 v2 v3 v4 v5) from HD.out.set 3 (.int .i64 v3)⟩, by simp only [intOf]; omega⟩
  ·have c0 : wr.cell? ⟨A, 4, none⟩ = some (.string l4) := (HB.out.cell hAl).trans HC4.out
   have HA := Lib.hid ((HW.out.on (by rw [HGB.out]; exact HB.out)).atoi l4 (by have := HS4.out; omega))
   rw [HV4.out] at HA
   have zl := HD.out.lt
   go_wp2_with fail
   refine HA.out.mono ?_
   rintro e w2 ⟨er, rfl, hb⟩
   replace HB := Lib.hid (HB.out.trans (hb.mono (Nat.le_of_lt zl)))
   replace HD := Lib.hid (HD.out.step hb)
   clear hb HA c0 zl
   have f0 := HD.out.cell 4
   have z0 := HD.out.frz 4
   have zl := HD.out.lt
   simp [stB] at f0
   go_wp2_with fail
   exact ⟨⟨5, by omega, by go_num, HB.out.setCell (show gb ≤ (⟨gb, 4, none⟩ : Addr).block from Nat.le_refl gb) _, show Blk _ gb 201 (stB 5 v0 v1 v2 v3 v4 v5) from HD.out.set 4 (.int .i64 v4)⟩, by simp only [intOf]; omega⟩
  ·have c0 : wr.cell? ⟨A, 5, none⟩ = some (.string l5) := (HB.out.cell hAl).trans HC5.out
   have HA := Lib.hid ((HW.out.on (by rw [HGB.out]; exact HB.out)).atoi l5 (by have := HS5.out; omega))
   rw [HV5.out] at HA
   have zl := HD.out.lt
   go_wp2_with fail
   refine HA.out.mono ?_
   rintro e w2 ⟨er, rfl, hb⟩
   replace HB := Lib.hid (HB.out.trans (hb.mono (Nat.le_of_lt zl)))
   replace HD := Lib.hid (HD.out.step hb)
   clear hb HA c0 zl
   have f0 := HD.out.cell 5
   have z0 := HD.out.frz 5
   have zl := HD.out.lt
   simp [stB] at f0
   go_wp2_with fail
   exact ⟨⟨6, by omega, by go_num, HB.out.setCell (show gb ≤ (⟨gb, 5, none⟩ : Addr).block from Nat.le_refl gb) _, show Blk _ gb 201 (stB 6 v0 v1 v2 v3 v4 v5) from HD.out.set 5 (.int .i64 v5)⟩, by simp only [intOf]; omega⟩
  ·skip
   replace HD := Lib.hid (show Blk wr gb 201 #[.int .i64 v0, .int .i64 v1, .int .i64 v2, .int .i64 v3, .int .i64 v4, .int .i64 v5] from HD.out)
   have f0 : wr.cell? ⟨gb, 0, none⟩ = some (.int .i64 v0) := HD.out.cell 0
   have f1 : wr.cell? ⟨gb, 1, none⟩ = some (.int .i64 v1) := HD.out.cell 1
   have f2 : wr.cell? ⟨gb, 2, none⟩ = some (.int .i64 v2) := HD.out.cell 2
   have f3 : wr.cell? ⟨gb, 3, none⟩ = some (.int .i64 v3) := HD.out.cell 3
   have f4 : wr.cell? ⟨gb, 4, none⟩ = some (.int .i64 v4) := HD.out.cell 4
   have f5 : wr.cell? ⟨gb, 5, none⟩ = some (.int .i64 v5) := HD.out.cell 5
   have zl := HD.out.lt
   have hBW : w.heap.size ≤ gb := by rw [← HGB.out]; exact HBW.out.size
   replace HB := Lib.hid (show Below w1.heap.size w1 wr by rw [HGB.out]; exact HB.out)
   replace HW := Lib.hid (HW.out.on HB.out)
   go_wp2_with fail
   refine (c_Days v0 v1 v2 _).mono ?_
   rintro e w2 ⟨rfl, rfl⟩
   by_cases hd : ¬ dayOk v0 v1 v2 = true
   ·have hd' := Bool.eq_false_iff.2 hd
    have HR := Lib.hid (st_none (fun t h1 h2 => by obtain ⟨Y, M, D, H, I, S, f, a, b, c, d, e⟩ := HG.out t h1 h2; simp only [List.cons.injEq, and_true] at f; obtain ⟨rfl, rfl, rfl, rfl, rfl, rfl⟩ := f; exact hd a))
    rw [daysV_no hd', daysE_no hd']
    clear hd hd' HG
    go_wp2_with fail
    go_ret2
    exact ⟨_, _, rfl, HR.out, HBW.out.trans (HB.out.mono HBW.out.size)⟩
   have hd' : dayOk v0 v1 v2 = true := Classical.not_not.1 hd
   clear hd
   rw [daysV_ok hd', daysE_ok hd']
   have HND := Lib.hid (show -200000 ≤ daysN v0 v1 v2 ∧ daysN v0 v1 v2 ≤ 200000 from by have := days_in hd'; simp [dateOk] at this; omega)
   obtain ⟨dn, hdn⟩ : ∃ d, daysN v0 v1 v2 = d := ⟨_, rfl⟩
   have HDN := Lib.hid hdn
   rw [hdn] at HND ⊢
   clear hdn hd'
   by_cases a1 : v3 < v4
   ·by_cases a2 : v4 < v5
    ·skip
     by_cases hm : 60 < v5
     ·have HR := Lib.hid (st_none (fun t h1 h2 => by obtain ⟨Y, M, D, H, I, S, f, a, b, c, d, e⟩ := HG.out t h1 h2; simp only [List.cons.injEq, and_true] at f; obtain ⟨rfl, rfl, rfl, rfl, rfl, rfl⟩ := f; omega))
      clear HG
      go_wp2_with fail
      go_ret2
      exact ⟨_, _, rfl, HR.out, HBW.out.trans (HB.out.mono HBW.out.size)⟩
     go_wp2_with fail
     obtain ⟨t, ht⟩ : ∃ t, (wrap64 (wrap64 (wrap64 (wrap64 (86400 * dn) + wrap64 (3600 * v3)) + wrap64 (60 * v4)) + v5)) = t := ⟨_, rfl⟩
     have hb1 : -9223372036854775808 ≤ t ∧ t ≤ 9223372036854775807 := by rw [← ht]; exact wrap64_bd _
     have HE := Lib.hid (show ∀ t', dateOk (t' / 86400) = true → stV t' = s → t = t' from fun t' h1 h2 => by obtain ⟨Y, M, D, H, I, S, f, a, b, c, d, e⟩ := HG.out t' h1 h2; simp only [List.cons.injEq, and_true] at f; obtain ⟨rfl, rfl, rfl, rfl, rfl, rfl⟩ := f; rw [HDN.out] at e; have n1 := HND.out; rw [← ht, e]; unfold wrap64; omega)
     rw [ht]
     have HA := Lib.hid (stamp_any t hb1.1 hb1.2 wr HW.out.it)
     clear ht hb1 HG hm
     refine HA.out.mono ?_
     rintro e w2 ⟨u, er, rfl, ho, hb⟩
     replace HB := Lib.hid (HB.out.trans (hb.mono HB.out.size))
     clear hb HA
     rcases ho with ⟨ho, rfl, rfl⟩ | ⟨ho, rfl⟩
     ·by_cases hs2 : stV t = s
      ·have hd : ((stV t).toList == s.toList) = true := by rw [hs2]; exact beq_self_eq_true _
       have HR : Hid (RdSt s t 0) := Lib.hid (Or.inl ⟨ho, hs2, rfl⟩)
       go_wp2_with fail
       go_ret2
       exact ⟨_, _, rfl, HR.out, HBW.out.trans (HB.out.mono HBW.out.size)⟩
      ·have hd : ((stV t).toList == s.toList) = false := str_ne hs2
       have HR := Lib.hid (st_none (fun t' h1 h2 => by have e := HE.out t' h1 h2; rw [← e] at h2; exact hs2 h2))
       go_wp2_with fail
       go_ret2
       exact ⟨_, _, rfl, HR.out, HBW.out.trans (HB.out.mono HBW.out.size)⟩
     ·have HR := Lib.hid (st_none (fun t' h1 h2 => by have e := HE.out t' h1 h2; rw [← e, ho] at h1; cases h1))
      go_wp2_with fail
      go_ret2
      exact ⟨_, _, rfl, HR.out, HBW.out.trans (HB.out.mono HBW.out.size)⟩
    ·skip
     by_cases hm : 60 < v4
     ·have HR := Lib.hid (st_none (fun t h1 h2 => by obtain ⟨Y, M, D, H, I, S, f, a, b, c, d, e⟩ := HG.out t h1 h2; simp only [List.cons.injEq, and_true] at f; obtain ⟨rfl, rfl, rfl, rfl, rfl, rfl⟩ := f; omega))
      clear HG
      go_wp2_with fail
      go_ret2
      exact ⟨_, _, rfl, HR.out, HBW.out.trans (HB.out.mono HBW.out.size)⟩
     go_wp2_with fail
     obtain ⟨t, ht⟩ : ∃ t, (wrap64 (wrap64 (wrap64 (wrap64 (86400 * dn) + wrap64 (3600 * v3)) + wrap64 (60 * v4)) + v5)) = t := ⟨_, rfl⟩
     have hb1 : -9223372036854775808 ≤ t ∧ t ≤ 9223372036854775807 := by rw [← ht]; exact wrap64_bd _
     have HE := Lib.hid (show ∀ t', dateOk (t' / 86400) = true → stV t' = s → t = t' from fun t' h1 h2 => by obtain ⟨Y, M, D, H, I, S, f, a, b, c, d, e⟩ := HG.out t' h1 h2; simp only [List.cons.injEq, and_true] at f; obtain ⟨rfl, rfl, rfl, rfl, rfl, rfl⟩ := f; rw [HDN.out] at e; have n1 := HND.out; rw [← ht, e]; unfold wrap64; omega)
     rw [ht]
     have HA := Lib.hid (stamp_any t hb1.1 hb1.2 wr HW.out.it)
     clear ht hb1 HG hm
     refine HA.out.mono ?_
     rintro e w2 ⟨u, er, rfl, ho, hb⟩
     replace HB := Lib.hid (HB.out.trans (hb.mono HB.out.size))
     clear hb HA
     rcases ho with ⟨ho, rfl, rfl⟩ | ⟨ho, rfl⟩
     ·by_cases hs2 : stV t = s
      ·have hd : ((stV t).toList == s.toList) = true := by rw [hs2]; exact beq_self_eq_true _
       have HR : Hid (RdSt s t 0) := Lib.hid (Or.inl ⟨ho, hs2, rfl⟩)
       go_wp2_with fail
       go_ret2
       exact ⟨_, _, rfl, HR.out, HBW.out.trans (HB.out.mono HBW.out.size)⟩
      ·have hd : ((stV t).toList == s.toList) = false := str_ne hs2
       have HR := Lib.hid (st_none (fun t' h1 h2 => by have e := HE.out t' h1 h2; rw [← e] at h2; exact hs2 h2))
       go_wp2_with fail
       go_ret2
       exact ⟨_, _, rfl, HR.out, HBW.out.trans (HB.out.mono HBW.out.size)⟩
     ·have HR := Lib.hid (st_none (fun t' h1 h2 => by have e := HE.out t' h1 h2; rw [← e, ho] at h1; cases h1))
      go_wp2_with fail
      go_ret2
      exact ⟨_, _, rfl, HR.out, HBW.out.trans (HB.out.mono HBW.out.size)⟩
   ·by_cases a2 : v3 < v5
    ·skip
     by_cases hm : 60 < v5
     ·have HR := Lib.hid (st_none (fun t h1 h2 => by obtain ⟨Y, M, D, H, I, S, f, a, b, c, d, e⟩ := HG.out t h1 h2; simp only [List.cons.injEq, and_true] at f; obtain ⟨rfl, rfl, rfl, rfl, rfl, rfl⟩ := f; omega))
      clear HG
      go_wp2_with fail
      go_ret2
      exact ⟨_, _, rfl, HR.out, HBW.out.trans (HB.out.mono HBW.out.size)⟩
     go_wp2_with fail
     obtain ⟨t, ht⟩ : ∃ t, (wrap64 (wrap64 (wrap64 (wrap64 (86400 * dn) + wrap64 (3600 * v3)) + wrap64 (60 * v4)) + v5)) = t := ⟨_, rfl⟩
     have hb1 : -9223372036854775808 ≤ t ∧ t ≤ 9223372036854775807 := by rw [← ht]; exact wrap64_bd _
     have HE := Lib.hid (show ∀ t', dateOk (t' / 86400) = true → stV t' = s → t = t' from fun t' h1 h2 => by obtain ⟨Y, M, D, H, I, S, f, a, b, c, d, e⟩ := HG.out t' h1 h2; simp only [List.cons.injEq, and_true] at f; obtain ⟨rfl, rfl, rfl, rfl, rfl, rfl⟩ := f; rw [HDN.out] at e; have n1 := HND.out; rw [← ht, e]; unfold wrap64; omega)
     rw [ht]
     have HA := Lib.hid (stamp_any t hb1.1 hb1.2 wr HW.out.it)
     clear ht hb1 HG hm
     refine HA.out.mono ?_
     rintro e w2 ⟨u, er, rfl, ho, hb⟩
     replace HB := Lib.hid (HB.out.trans (hb.mono HB.out.size))
     clear hb HA
     rcases ho with ⟨ho, rfl, rfl⟩ | ⟨ho, rfl⟩
     ·by_cases hs2 : stV t = s
      ·have hd : ((stV t).toList == s.toList) = true := by rw [hs2]; exact beq_self_eq_true _
       have HR : Hid (RdSt s t 0) := Lib.hid (Or.inl ⟨ho, hs2, rfl⟩)
       go_wp2_with fail
       go_ret2
       exact ⟨_, _, rfl, HR.out, HBW.out.trans (HB.out.mono HBW.out.size)⟩
      ·have hd : ((stV t).toList == s.toList) = false := str_ne hs2
       have HR := Lib.hid (st_none (fun t' h1 h2 => by have e := HE.out t' h1 h2; rw [← e] at h2; exact hs2 h2))
       go_wp2_with fail
       go_ret2
       exact ⟨_, _, rfl, HR.out, HBW.out.trans (HB.out.mono HBW.out.size)⟩
     ·have HR := Lib.hid (st_none (fun t' h1 h2 => by have e := HE.out t' h1 h2; rw [← e, ho] at h1; cases h1))
      go_wp2_with fail
      go_ret2
      exact ⟨_, _, rfl, HR.out, HBW.out.trans (HB.out.mono HBW.out.size)⟩
    ·skip
     by_cases hm : 60 < v3
     ·have HR := Lib.hid (st_none (fun t h1 h2 => by obtain ⟨Y, M, D, H, I, S, f, a, b, c, d, e⟩ := HG.out t h1 h2; simp only [List.cons.injEq, and_true] at f; obtain ⟨rfl, rfl, rfl, rfl, rfl, rfl⟩ := f; omega))
      clear HG
      go_wp2_with fail
      go_ret2
      exact ⟨_, _, rfl, HR.out, HBW.out.trans (HB.out.mono HBW.out.size)⟩
     go_wp2_with fail
     obtain ⟨t, ht⟩ : ∃ t, (wrap64 (wrap64 (wrap64 (wrap64 (86400 * dn) + wrap64 (3600 * v3)) + wrap64 (60 * v4)) + v5)) = t := ⟨_, rfl⟩
     have hb1 : -9223372036854775808 ≤ t ∧ t ≤ 9223372036854775807 := by rw [← ht]; exact wrap64_bd _
     have HE := Lib.hid (show ∀ t', dateOk (t' / 86400) = true → stV t' = s → t = t' from fun t' h1 h2 => by obtain ⟨Y, M, D, H, I, S, f, a, b, c, d, e⟩ := HG.out t' h1 h2; simp only [List.cons.injEq, and_true] at f; obtain ⟨rfl, rfl, rfl, rfl, rfl, rfl⟩ := f; rw [HDN.out] at e; have n1 := HND.out; rw [← ht, e]; unfold wrap64; omega)
     rw [ht]
     have HA := Lib.hid (stamp_any t hb1.1 hb1.2 wr HW.out.it)
     clear ht hb1 HG hm
     refine HA.out.mono ?_
     rintro e w2 ⟨u, er, rfl, ho, hb⟩
     replace HB := Lib.hid (HB.out.trans (hb.mono HB.out.size))
     clear hb HA
     rcases ho with ⟨ho, rfl, rfl⟩ | ⟨ho, rfl⟩
     ·by_cases hs2 : stV t = s
      ·have hd : ((stV t).toList == s.toList) = true := by rw [hs2]; exact beq_self_eq_true _
       have HR : Hid (RdSt s t 0) := Lib.hid (Or.inl ⟨ho, hs2, rfl⟩)
       go_wp2_with fail
       go_ret2
       exact ⟨_, _, rfl, HR.out, HBW.out.trans (HB.out.mono HBW.out.size)⟩
      ·have hd : ((stV t).toList == s.toList) = false := str_ne hs2
       have HR := Lib.hid (st_none (fun t' h1 h2 => by have e := HE.out t' h1 h2; rw [← e] at h2; exact hs2 h2))
       go_wp2_with fail
       go_ret2
       exact ⟨_, _, rfl, HR.out, HBW.out.trans (HB.out.mono HBW.out.size)⟩
     ·have HR := Lib.hid (st_none (fun t' h1 h2 => by have e := HE.out t' h1 h2; rw [← e, ho] at h1; cases h1))
      go_wp2_with fail
      go_ret2
      exact ⟨_, _, rfl, HR.out, HBW.out.trans (HB.out.mono HBW.out.size)⟩
end Go.Proofs.YthppifcggmdmoaaGreatDoor

