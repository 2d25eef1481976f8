/- Part 28 of the proof of BookParses: no condition; what its declarations say stands at each. -/
import Derived.Test.YthppifcggmdmoaaGreatDoorJ06
import Derived.Test.YthppifcggmdmoaaGreatDoorJ27
import Derived.Test.YthppifcggmdmoaaGreatDoorJ26
namespace Go.Proofs.YthppifcggmdmoaaGreatDoor
open Go.RowKit
set_option linter.unusedVariables false
theorem rd_none {s : ByteArray} {L : List (List UInt8)} {ng : Bool} (HG : ∀ n, spOk n = true → spV n = s → ∃ m : Nat, GoodW L m ∧ n = sgnV ng m) (h : ∀ m, GoodW L m → False) : RdIs s 0 3 :=
 Or.inr ⟨fun n ho e => by obtain ⟨m, G, _⟩ := HG n ho e; exact h m G, rfl, rfl⟩
theorem dgV_lt : ∀ (n : Nat) (l : List UInt8), l.length = n → (∀ c ∈ l, isDg c) → dgV l < 10 ^ n
 | 0, l, h, _ => by rw [List.length_eq_zero_iff.1 h]; decide
 | n + 1, l, h, hd => by
  obtain ⟨l', c, rfl⟩ : ∃ l' c, l = l' ++ [c] := by
   have hne : l ≠ [] := by intro e; rw [e] at h; cases h
   exact ⟨l.dropLast, l.getLast hne, (List.dropLast_concat_getLast hne).symm⟩
  have hc : 48 ≤ c.toNat ∧ c.toNat ≤ 57 := hd c (by simp)
  have ih := dgV_lt n l' (by simpa using h) (fun c hc => hd c (by simp [hc]))
  rw [dgV_snoc, Nat.pow_succ]
  omega
theorem dgV_999 {l : List UInt8} (h : l.length ≤ 3) (hd : ∀ c ∈ l, isDg c) : dgV l ≤ 999 := by
 have h1 := dgV_lt l.length l rfl hd
 have h2 : (10 : Nat) ^ l.length ≤ 10 ^ 3 := Nat.pow_le_pow_right (by decide) h
 omega
theorem take_snoc {l : List UInt8} {j : Nat} (h : j < l.length) : l.take (j + 1) = l.take j ++ [l.getD j 0] := by
 rw [List.take_add_one, List.getD_eq_getElem?_getD, List.getElem?_eq_getElem h]; rfl
theorem getD_in {l : List UInt8} {j : Nat} (h : j < l.length) : l.getD j 0 ∈ l := by
 rw [List.getD_eq_getElem?_getD, List.getElem?_eq_getElem h]; exact List.getElem_mem h
theorem r_span_any (n : Int) (w : World) :
  Calls Tryz.prog 62 #[.int .i64 n] w fun e w' => ∃ u er, e = .returned (.tuple #[.string u, .int .i64 er]) ∧ ((spOk n = true ∧ u = spV n ∧ er = 0) ∨ (spOk n = false ∧ er = 1)) ∧ Below w.heap.size w w' := by
 refine (r_Span n w).mono ?_
 rintro e w' ⟨rfl, hb⟩
 cases h : spOk n with
 | true => exact ⟨_, _, rfl, Or.inl ⟨rfl, rfl, by rw [spE, if_pos h]⟩, hb⟩
 | false => exact ⟨_, _, rfl, Or.inr ⟨rfl, by rw [spE, h]; rfl⟩, hb⟩
set_option maxRecDepth 100000 in
set_option maxHeartbeats 4000000 in
theorem r_SpanRead_false (s : ByteArray) (hs : s.size < 4294967281) (hng : negOf s = false) (w : World) :
  Calls Tryz.prog 25 #[.string s] w fun e w' => ∃ a b, e = .returned (.tuple #[.int .i64 a, .int .i64 b]) ∧ RdIs s a b ∧ Below w.heap.size w w' := by
 have HG := Lib.hid (show ∀ n, spOk n = true → spV n = s → ∃ m : Nat, GoodW (wordsOf s) m ∧ n = sgnV (negOf s) m from fun n ho e => by rw [← e]; exact rd_good ho)
 rw [hng] at HG
 have HT2 := Lib.hid (show lSplit 58 s.data.toList = wordsOf s from by have h : Lib.hasPrefix s.data.toList [45] = false := hng; rw [wordsOf, Lib.trimPrefix, h]; rfl)
 have HNG : Lib.hasPrefix s.data.toList (⟨#[45]⟩ : ByteArray).data.toList = false := hng
 obtain ⟨L, hL⟩ : ∃ L, wordsOf s = L := ⟨_, rfl⟩
 rw [hL] at HG HT2
 clear hL hng
 go_enter Tryz.func25, Tryz.ntmps25
 go_wp2_with fail
 refine (Tryz.strings_HasPrefix s ⟨#[45]⟩ _).mono ?_
 rintro e w' ⟨rfl, rfl⟩
 rw [HNG]
 clear HNG
 go_wp2_with fail
 refine (split_one _ 58 hs _).mono ?_
 rintro e w1 ⟨ws, hws, rfl, rfl⟩
 rw [HT2.out] at hws
 have hlen := Lib.hid (show ws.length = L.length by rw [← hws, List.length_map])
 have HW := Lib.hid (show ∀ k (h : k < ws.length), L.getD k [] = (ws[k]).data.toList from fun k h => by rw [← hws]; simp [List.getD, h])
 clear hws
 have HX := Lib.hid (Blk.new w' (ws.map Value.string).toArray 9)
 have HB := Lib.hid (show Below w'.heap.size w' _ from (Below.refl w'.heap.size w').alloc (Nat.le_refl _) (.cells (ws.map Value.string).toArray 9))
 obtain ⟨W1, hW1⟩ : ∃ W, (w').alloc (.cells (ws.map Value.string).toArray 9) = W := ⟨_, rfl⟩
 rw [hW1] at HB HX
 rw [hW1]
 clear hW1
 by_cases hl3 : 3 < ws.length
 ·have hl4 : (3 : Int) < (ws.length : Int) := by omega
  have HR := Lib.hid (rd_none HG.out (fun m G => by have := G.len; rw [← hlen.out] at this; omega))
  go_wp2_with fail
  go_ret2
  exact ⟨_, _, rfl, HR.out, HB.out⟩
 have hl4 : ¬ (3 : Int) < (ws.length : Int) := by omega
 go_wp2_with fail
 go_loopw [7, 27] (fun n i wr => ∃ k : Nat, k ≤ ws.length ∧ i = .int .i64 k ∧ n = .int .i64 (accW L k : Nat) ∧ Below w'.heap.size w' wr ∧ Blk wr w'.heap.size 9 (ws.map Value.string).toArray ∧ accW L k ≤ 3600000 * k) (fun _ i _ => ws.length - (intOf i).toNat)
 case atStart => exact ⟨0, by omega, rfl, rfl, HB.out, HX.out, by simp [accW]⟩
 case round =>
  clear HB HX
  obtain ⟨k, hk, rfl, rfl, hB, hX, hA⟩ := hrel
  have HB := Lib.hid hB
  have HX := Lib.hid hX
  have HAL := Lib.hid hA
  clear hB hX hA
  by_cases hlt : k < ws.length
  ·have c0 : wr.cell? ⟨w'.heap.size, k, none⟩ = some (.string ws[k]) := by rw [HX.out.cell]; simp [hlt]
   have hl0 := HX.out.lt
   have HK := Lib.hid (HW.out k hlt)
   obtain ⟨wd, hwd⟩ : ∃ b, ws[k] = b := ⟨_, rfl⟩
   rw [hwd] at HK c0
   clear hwd
   rcases (show k = 0 ∨ k = 1 ∨ k = 2 by omega) with rfl | rfl | rfl
   ·skip
    by_cases z0 : wd.size = 0
    ·have z1 : ((wd.size : Int) == 0) = true := by rw [z0]; rfl
     have z2 : decide ((wd.size : Int) = 0) = true := by rw [z0]; rfl
     have HR := Lib.hid (rd_none HG.out (fun m G => by have := G.one; rw [HK.out] at this; have e := Lib.size_eq wd; omega))
     go_wp2_with fail
     go_ret2
     exact ⟨_, _, rfl, HR.out, HB.out⟩
    by_cases z3 : 3 < wd.size
    ·have z4 : (3 : Int) < (wd.size : Int) := by omega
     have z5 : ((wd.size : Int) == 0) = false := by rw [beq_eq_false_iff_ne]; omega
     have HR := Lib.hid (rd_none HG.out (fun m G => by have := G.one; rw [HK.out] at this; have e := Lib.size_eq wd; omega))
     go_wp2_with fail
     go_ret2
     exact ⟨_, _, rfl, HR.out, HB.out⟩
    have z4 : ¬ (3 : Int) < (wd.size : Int) := by omega
    have z5 : ((wd.size : Int) == 0) = false := by rw [beq_eq_false_iff_ne]; omega
    have hw3 : wd.size ≤ 3 := by omega
    obtain ⟨W2, cap2, hrun, hcell, hb2, hz2⟩ := conv_facts wr wd
    have HC2 := Lib.hid hcell
    have HB2 := Lib.hid hb2
    have HZ2 := Lib.hid hz2
    clear hcell hb2 hz2
    go_wp2_with fail
    clear hrun c0 hl0
    go_loop [10, 52] (fun kv j => ∃ i : Nat, i ≤ wd.size ∧ j = .int .i64 i ∧ kv = .int .i64 (dgV (wd.data.toList.take i) : Nat) ∧ Hid (∀ c ∈ wd.data.toList.take i, isDg c)) (fun _ j => wd.size - (intOf j).toNat)
    case atStart => exact ⟨0, by omega, rfl, rfl, Lib.hid (fun c hc => by simp at hc)⟩
    case round =>
     obtain ⟨i, hi, rfl, rfl, HD⟩ := hrel
     have e2 := Lib.hid (show wd.size = wd.data.toList.length from Lib.size_eq _)
     by_cases hil : i < wd.size
     ·have hc : W2.cell? ⟨wr.heap.size, i, none⟩ = some (.int .u8 ((wd.data.toList.getD i 0).toNat : Int)) := HC2.out i hil
      have HTS := Lib.hid (take_snoc (l := wd.data.toList) (j := i) (by have := e2.out; omega))
      have h9 : dgV (wd.data.toList.take i) ≤ 999 := dgV_999 (by rw [List.length_take]; have := e2.out; omega) HD.out
      obtain ⟨c, hcc⟩ : ∃ c, wd.data.toList.getD i 0 = c := ⟨_, rfl⟩
      rw [hcc] at hc HTS
      have HCC := Lib.hid hcc
      clear hcc
      obtain ⟨d, hd⟩ : ∃ d, dgV (wd.data.toList.take i) = d := ⟨_, rfl⟩
      rw [hd] at h9 ⊢
      have HDV := Lib.hid hd
      clear hd
      have hcb : c.toNat < 256 := c.toNat_lt
      by_cases q1 : c.toNat < 48
      ·have q2 : ((c.toNat : Nat) : Int) < 48 := by omega
       have HB := Lib.hid (HB.out.trans (HB2.out.mono HB.out.size))
       have HR := Lib.hid (rd_none HG.out (fun m G => by have h := G.dg 0 (by rw [← hlen.out]; omega) c (by rw [HK.out, ← HCC.out]; exact getD_in (by have := e2.out; omega)); unfold isDg at h; omega))
       go_wp2_with fail
       go_ret2
       exact ⟨_, _, rfl, HR.out, HB.out⟩
      by_cases q3 : 57 < c.toNat
      ·have q2 : ¬ ((c.toNat : Nat) : Int) < 48 := by omega
       have q4 : (57 : Int) < ((c.toNat : Nat) : Int) := by omega
       have HB := Lib.hid (HB.out.trans (HB2.out.mono HB.out.size))
       have HR := Lib.hid (rd_none HG.out (fun m G => by have h := G.dg 0 (by rw [← hlen.out]; omega) c (by rw [HK.out, ← HCC.out]; exact getD_in (by have := e2.out; omega)); unfold isDg at h; omega))
       go_wp2_with fail
       go_ret2
       exact ⟨_, _, rfl, HR.out, HB.out⟩
      have q2 : ¬ ((c.toNat : Nat) : Int) < 48 := by omega
      have q4 : ¬ (57 : Int) < ((c.toNat : Nat) : Int) := by omega
      obtain ⟨cn, hcn⟩ : ∃ n : Nat, c.toNat = n := ⟨_, rfl⟩
      rw [hcn] at hc hcb q1 q2 q3 q4
      have HCN := Lib.hid hcn
      clear hcn
      go_wp2_with fail
      refine ⟨⟨i + 1, by omega, by go_num, ?_, Lib.hid ?_⟩, by simp [intOf]; omega⟩
      ·rw [HTS.out, dgV_snoc, HDV.out, HCN.out]; go_num
      ·rw [HTS.out]; intro x hx; rcases List.mem_append.1 hx with hx | hx
       ·exact HD.out x hx
       ·obtain rfl := List.mem_singleton.1 hx; unfold isDg; rw [HCN.out]; omega
     ·obtain rfl : i = wd.size := by omega
      have htk : wd.data.toList.take wd.size = wd.data.toList := List.take_of_length_le (by have := e2.out; omega)
      rw [htk] at HD ⊢
      clear htk
      have h9 : dgV wd.data.toList ≤ 999 := dgV_999 (by have := e2.out; omega) HD.out
      have HAK := Lib.hid (show accW L (0 + 1) = accW L 0 + dgV wd.data.toList * 3600 from by rw [← HK.out]; rfl)
      obtain ⟨d, hd⟩ : ∃ d, dgV wd.data.toList = d := ⟨_, rfl⟩
      rw [hd] at h9 HAK ⊢
      clear hd
      have ha := HAL.out
      obtain ⟨p, hp⟩ : ∃ p, accW L 0 = p := ⟨_, rfl⟩
      rw [hp] at HAK ha ⊢
      clear hp
      replace HB := Lib.hid (HB.out.trans (HB2.out.mono HB.out.size))
      replace HX := Lib.hid (HX.out.step HB2.out)
      clear HB2 HC2 HZ2
      go_wp2_with fail
      refine ⟨⟨1, by omega, by go_num, ?_, HB.out.alloc HB.out.size _, HX.out.alloc _, ?_⟩, by simp only [intOf]; omega⟩
      ·rw [HAK.out]; go_num
      ·rw [HAK.out]; omega
   ·skip
    by_cases z3 : ¬ wd.size = 2
    ·have z4 : ((wd.size : Int) == 2) = false := by rw [beq_eq_false_iff_ne]; omega
     have HR := Lib.hid (rd_none HG.out (fun m G => by have := G.two 1 (by omega) (by rw [← hlen.out]; omega); rw [HK.out] at this; have e := Lib.size_eq wd; omega))
     go_wp2_with fail
     go_ret2
     exact ⟨_, _, rfl, HR.out, HB.out⟩
    have z4 : (wd.size : Int) = 2 := by omega
    have z5 : ((wd.size : Int) == 2) = true := by rw [z4]; rfl
    have z6 : ((wd.size : Int) == 0) = false := by rw [z4]; rfl
    have hw3 : wd.size ≤ 3 := by omega
    obtain ⟨W2, cap2, hrun, hcell, hb2, hz2⟩ := conv_facts wr wd
    have HC2 := Lib.hid hcell
    have HB2 := Lib.hid hb2
    have HZ2 := Lib.hid hz2
    clear hcell hb2 hz2
    go_wp2_with fail
    clear hrun c0 hl0
    go_loop [10, 52] (fun kv j => ∃ i : Nat, i ≤ wd.size ∧ j = .int .i64 i ∧ kv = .int .i64 (dgV (wd.data.toList.take i) : Nat) ∧ Hid (∀ c ∈ wd.data.toList.take i, isDg c)) (fun _ j => wd.size - (intOf j).toNat)
    case atStart => exact ⟨0, by omega, rfl, rfl, Lib.hid (fun c hc => by simp at hc)⟩
    case round =>
     obtain ⟨i, hi, rfl, rfl, HD⟩ := hrel
     have e2 := Lib.hid (show wd.size = wd.data.toList.length from Lib.size_eq _)
     by_cases hil : i < wd.size
     ·have hc : W2.cell? ⟨wr.heap.size, i, none⟩ = some (.int .u8 ((wd.data.toList.getD i 0).toNat : Int)) := HC2.out i hil
      have HTS := Lib.hid (take_snoc (l := wd.data.toList) (j := i) (by have := e2.out; omega))
      have h9 : dgV (wd.data.toList.take i) ≤ 999 := dgV_999 (by rw [List.length_take]; have := e2.out; omega) HD.out
      obtain ⟨c, hcc⟩ : ∃ c, wd.data.toList.getD i 0 = c := ⟨_, rfl⟩
      rw [hcc] at hc HTS
      have HCC := Lib.hid hcc
      clear hcc
      obtain ⟨d, hd⟩ : ∃ d, dgV (wd.data.toList.take i) = d := ⟨_, rfl⟩
      rw [hd] at h9 ⊢
      have HDV := Lib.hid hd
      clear hd
      have hcb : c.toNat < 256 := c.toNat_lt
      by_cases q1 : c.toNat < 48
      ·have q2 : ((c.toNat : Nat) : Int) < 48 := by omega
       have HB := Lib.hid (HB.out.trans (HB2.out.mono HB.out.size))
       have HR := Lib.hid (rd_none HG.out (fun m G => by have h := G.dg 1 (by rw [← hlen.out]; omega) c (by rw [HK.out, ← HCC.out]; exact getD_in (by have := e2.out; omega)); unfold isDg at h; omega))
       go_wp2_with fail
       go_ret2
       exact ⟨_, _, rfl, HR.out, HB.out⟩
      by_cases q3 : 57 < c.toNat
      ·have q2 : ¬ ((c.toNat : Nat) : Int) < 48 := by omega
       have q4 : (57 : Int) < ((c.toNat : Nat) : Int) := by omega
       have HB := Lib.hid (HB.out.trans (HB2.out.mono HB.out.size))
       have HR := Lib.hid (rd_none HG.out (fun m G => by have h := G.dg 1 (by rw [← hlen.out]; omega) c (by rw [HK.out, ← HCC.out]; exact getD_in (by have := e2.out; omega)); unfold isDg at h; omega))
       go_wp2_with fail
       go_ret2
       exact ⟨_, _, rfl, HR.out, HB.out⟩
      have q2 : ¬ ((c.toNat : Nat) : Int) < 48 := by omega
      have q4 : ¬ (57 : Int) < ((c.toNat : Nat) : Int) := by omega
      obtain ⟨cn, hcn⟩ : ∃ n : Nat, c.toNat = n := ⟨_, rfl⟩
      rw [hcn] at hc hcb q1 q2 q3 q4
      have HCN := Lib.hid hcn
      clear hcn
      go_wp2_with fail
      refine ⟨⟨i + 1, by omega, by go_num, ?_, Lib.hid ?_⟩, by simp [intOf]; omega⟩
      ·rw [HTS.out, dgV_snoc, HDV.out, HCN.out]; go_num
      ·rw [HTS.out]; intro x hx; rcases List.mem_append.1 hx with hx | hx
       ·exact HD.out x hx
       ·obtain rfl := List.mem_singleton.1 hx; unfold isDg; rw [HCN.out]; omega
     ·obtain rfl : i = wd.size := by omega
      have htk : wd.data.toList.take wd.size = wd.data.toList := List.take_of_length_le (by have := e2.out; omega)
      rw [htk] at HD ⊢
      clear htk
      have h9 : dgV wd.data.toList ≤ 999 := dgV_999 (by have := e2.out; omega) HD.out
      have HAK := Lib.hid (show accW L (1 + 1) = accW L 1 + dgV wd.data.toList * 60 from by rw [← HK.out]; rfl)
      obtain ⟨d, hd⟩ : ∃ d, dgV wd.data.toList = d := ⟨_, rfl⟩
      rw [hd] at h9 HAK ⊢
      clear hd
      have ha := HAL.out
      obtain ⟨p, hp⟩ : ∃ p, accW L 1 = p := ⟨_, rfl⟩
      rw [hp] at HAK ha ⊢
      clear hp
      replace HB := Lib.hid (HB.out.trans (HB2.out.mono HB.out.size))
      replace HX := Lib.hid (HX.out.step HB2.out)
      clear HB2 HC2 HZ2
      go_wp2_with fail
      refine ⟨⟨2, by omega, by go_num, ?_, HB.out.alloc HB.out.size _, HX.out.alloc _, ?_⟩, by simp only [intOf]; omega⟩
      ·rw [HAK.out]; go_num
      ·rw [HAK.out]; omega
   ·skip
    by_cases z3 : ¬ wd.size = 2
    ·have z4 : ((wd.size : Int) == 2) = false := by rw [beq_eq_false_iff_ne]; omega
     have HR := Lib.hid (rd_none HG.out (fun m G => by have := G.two 2 (by omega) (by rw [← hlen.out]; omega); rw [HK.out] at this; have e := Lib.size_eq wd; omega))
     go_wp2_with fail
     go_ret2
     exact ⟨_, _, rfl, HR.out, HB.out⟩
    have z4 : (wd.size : Int) = 2 := by omega
    have z5 : ((wd.size : Int) == 2) = true := by rw [z4]; rfl
    have z6 : ((wd.size : Int) == 0) = false := by rw [z4]; rfl
    have hw3 : wd.size ≤ 3 := by omega
    obtain ⟨W2, cap2, hrun, hcell, hb2, hz2⟩ := conv_facts wr wd
    have HC2 := Lib.hid hcell
    have HB2 := Lib.hid hb2
    have HZ2 := Lib.hid hz2
    clear hcell hb2 hz2
    go_wp2_with fail
    clear hrun c0 hl0
    go_loop [10, 52] (fun kv j => ∃ i : Nat, i ≤ wd.size ∧ j = .int .i64 i ∧ kv = .int .i64 (dgV (wd.data.toList.take i) : Nat) ∧ Hid (∀ c ∈ wd.data.toList.take i, isDg c)) (fun _ j => wd.size - (intOf j).toNat)
    case atStart => exact ⟨0, by omega, rfl, rfl, Lib.hid (fun c hc => by simp at hc)⟩
    case round =>
     obtain ⟨i, hi, rfl, rfl, HD⟩ := hrel
     have e2 := Lib.hid (show wd.size = wd.data.toList.length from Lib.size_eq _)
     by_cases hil : i < wd.size
     ·have hc : W2.cell? ⟨wr.heap.size, i, none⟩ = some (.int .u8 ((wd.data.toList.getD i 0).toNat : Int)) := HC2.out i hil
      have HTS := Lib.hid (take_snoc (l := wd.data.toList) (j := i) (by have := e2.out; omega))
      have h9 : dgV (wd.data.toList.take i) ≤ 999 := dgV_999 (by rw [List.length_take]; have := e2.out; omega) HD.out
      obtain ⟨c, hcc⟩ : ∃ c, wd.data.toList.getD i 0 = c := ⟨_, rfl⟩
      rw [hcc] at hc HTS
      have HCC := Lib.hid hcc
      clear hcc
      obtain ⟨d, hd⟩ : ∃ d, dgV (wd.data.toList.take i) = d := ⟨_, rfl⟩
      rw [hd] at h9 ⊢
      have HDV := Lib.hid hd
      clear hd
      have hcb : c.toNat < 256 := c.toNat_lt
      by_cases q1 : c.toNat < 48
      ·have q2 : ((c.toNat : Nat) : Int) < 48 := by omega
       have HB := Lib.hid (HB.out.trans (HB2.out.mono HB.out.size))
       have HR := Lib.hid (rd_none HG.out (fun m G => by have h := G.dg 2 (by rw [← hlen.out]; omega) c (by rw [HK.out, ← HCC.out]; exact getD_in (by have := e2.out; omega)); unfold isDg at h; omega))
       go_wp2_with fail
       go_ret2
       exact ⟨_, _, rfl, HR.out, HB.out⟩
      by_cases q3 : 57 < c.toNat
      ·have q2 : ¬ ((c.toNat : Nat) : Int) < 48 := by omega
       have q4 : (57 : Int) < ((c.toNat : Nat) : Int) := by omega
       have HB := Lib.hid (HB.out.trans (HB2.out.mono HB.out.size))
       have HR := Lib.hid (rd_none HG.out (fun m G => by have h := G.dg 2 (by rw [← hlen.out]; omega) c (by rw [HK.out, ← HCC.out]; exact getD_in (by have := e2.out; omega)); unfold isDg at h; omega))
       go_wp2_with fail
       go_ret2
       exact ⟨_, _, rfl, HR.out, HB.out⟩
      have q2 : ¬ ((c.toNat : Nat) : Int) < 48 := by omega
      have q4 : ¬ (57 : Int) < ((c.toNat : Nat) : Int) := by omega
      obtain ⟨cn, hcn⟩ : ∃ n : Nat, c.toNat = n := ⟨_, rfl⟩
      rw [hcn] at hc hcb q1 q2 q3 q4
      have HCN := Lib.hid hcn
      clear hcn
      go_wp2_with fail
      refine ⟨⟨i + 1, by omega, by go_num, ?_, Lib.hid ?_⟩, by simp [intOf]; omega⟩
      ·rw [HTS.out, dgV_snoc, HDV.out, HCN.out]; go_num
      ·rw [HTS.out]; intro x hx; rcases List.mem_append.1 hx with hx | hx
       ·exact HD.out x hx
       ·obtain rfl := List.mem_singleton.1 hx; unfold isDg; rw [HCN.out]; omega
     ·obtain rfl : i = wd.size := by omega
      have htk : wd.data.toList.take wd.size = wd.data.toList := List.take_of_length_le (by have := e2.out; omega)
      rw [htk] at HD ⊢
      clear htk
      have h9 : dgV wd.data.toList ≤ 999 := dgV_999 (by have := e2.out; omega) HD.out
      have HAK := Lib.hid (show accW L (2 + 1) = accW L 2 + dgV wd.data.toList * 1 from by rw [← HK.out]; rfl)
      obtain ⟨d, hd⟩ : ∃ d, dgV wd.data.toList = d := ⟨_, rfl⟩
      rw [hd] at h9 HAK ⊢
      clear hd
      have ha := HAL.out
      obtain ⟨p, hp⟩ : ∃ p, accW L 2 = p := ⟨_, rfl⟩
      rw [hp] at HAK ha ⊢
      clear hp
      replace HB := Lib.hid (HB.out.trans (HB2.out.mono HB.out.size))
      replace HX := Lib.hid (HX.out.step HB2.out)
      clear HB2 HC2 HZ2
      go_wp2_with fail
      refine ⟨⟨3, by omega, by go_num, ?_, HB.out.alloc HB.out.size _, HX.out.alloc _, ?_⟩, by simp only [intOf]; omega⟩
      ·rw [HAK.out]; go_num
      ·rw [HAK.out]; omega
  ·obtain rfl : k = ws.length := by omega
   have hA := HAL.out
   have HY := Lib.hid (show (∃ m, GoodW L m) → (accW L ws.length : Int) = sgnV false (accW L L.length : Nat) from fun _ => by rw [← hlen.out]; rfl)
   obtain ⟨y, hy⟩ : ∃ y, accW L ws.length = y := ⟨_, rfl⟩
   rw [hy] at HY hA ⊢
   clear hy
   go_wp2_with fail
   refine (r_span_any _ _).mono ?_
   rintro e w2 ⟨u, er, rfl, ho, hb⟩
   replace HB := Lib.hid (HB.out.trans (hb.mono HB.out.size))
   clear hb
   rcases ho with ⟨ho, rfl, rfl⟩ | ⟨ho, rfl⟩
   ·by_cases hs2 : spV (y : Int) = s
    ·have hd : ((spV (y : Int)).toList == s.toList) = true := by rw [hs2]; exact beq_self_eq_true _
     have HR : Hid (RdIs s (y : Int) 0) := Lib.hid (Or.inl ⟨ho, hs2, rfl⟩)
     go_wp2_with fail
     go_ret2
     exact ⟨_, _, rfl, HR.out, HB.out⟩
    ·have hd : ((spV (y : Int)).toList == s.toList) = false := str_ne hs2
     have HR := Lib.hid (rd_fin HG.out HY.out (fun _ => hs2))
     go_wp2_with fail
     go_ret2
     exact ⟨_, _, rfl, HR.out, HB.out⟩
   ·have HR := Lib.hid (rd_fin HG.out HY.out (fun h => absurd (ho.symm.trans h) (by decide)))
    go_wp2_with fail
    go_ret2
    exact ⟨_, _, rfl, HR.out, HB.out⟩
set_option maxRecDepth 100000 in
set_option maxHeartbeats 4000000 in
theorem r_SpanRead_true (s : ByteArray) (hs : s.size < 4294967281) (hng : negOf s = true) (w : World) :
  Calls Tryz.prog 25 #[.string s] w fun e w' => ∃ a b, e = .returned (.tuple #[.int .i64 a, .int .i64 b]) ∧ RdIs s a b ∧ Below w.heap.size w w' := by
 have HG := Lib.hid (show ∀ n, spOk n = true → spV n = s → ∃ m : Nat, GoodW (wordsOf s) m ∧ n = sgnV (negOf s) m from fun n ho e => by rw [← e]; exact rd_good ho)
 rw [hng] at HG
 have HT2 := Lib.hid (show lSplit 58 (s.extract 1 s.size).data.toList = wordsOf s from by have h : Lib.hasPrefix s.data.toList [45] = true := hng; rw [wordsOf, Lib.trimPrefix, h, Lib.extract_to_end]; rfl)
 have h1s : 1 ≤ s.size := by
  have h : Lib.hasPrefix s.data.toList [45] = true := hng
  rw [Lib.size_eq]
  cases e : s.data.toList with
  | nil => rw [e] at h; cases h
  | cons c r => simp
 have HNG : Lib.hasPrefix s.data.toList (⟨#[45]⟩ : ByteArray).data.toList = true := hng
 obtain ⟨L, hL⟩ : ∃ L, wordsOf s = L := ⟨_, rfl⟩
 rw [hL] at HG HT2
 clear hL hng
 go_enter Tryz.func25, Tryz.ntmps25
 go_wp2_with fail
 refine (Tryz.strings_HasPrefix s ⟨#[45]⟩ _).mono ?_
 rintro e w' ⟨rfl, rfl⟩
 rw [HNG]
 clear HNG
 go_wp2_with fail
 go_quiet (fail)
 go_wp2_with fail
 refine (split_one _ 58 (by rw [ByteArray.size_extract]; omega) _).mono ?_
 rintro e w1 ⟨ws, hws, rfl, rfl⟩
 rw [HT2.out] at hws
 have hlen := Lib.hid (show ws.length = L.length by rw [← hws, List.length_map])
 have HW := Lib.hid (show ∀ k (h : k < ws.length), L.getD k [] = (ws[k]).data.toList from fun k h => by rw [← hws]; simp [List.getD, h])
 clear hws
 have HX := Lib.hid (Blk.new (w'.drewN nq) (ws.map Value.string).toArray 9)
 have HB := Lib.hid (show Below w'.heap.size w' _ from (below_drewN (Below.refl w'.heap.size w') nq).alloc (Nat.le_refl _) (.cells (ws.map Value.string).toArray 9))
 obtain ⟨W1, hW1⟩ : ∃ W, (w'.drewN nq).alloc (.cells (ws.map Value.string).toArray 9) = W := ⟨_, rfl⟩
 rw [hW1] at HB HX
 rw [hW1]
 clear hW1
 have eg : (w'.drewN nq).heap.size = w'.heap.size := rfl
 rw [eg] at HX ⊢
 clear eg
 by_cases hl3 : 3 < ws.length
 ·have hl4 : (3 : Int) < (ws.length : Int) := by omega
  have HR := Lib.hid (rd_none HG.out (fun m G => by have := G.len; rw [← hlen.out] at this; omega))
  go_wp2_with fail
  go_ret2
  exact ⟨_, _, rfl, HR.out, HB.out⟩
 have hl4 : ¬ (3 : Int) < (ws.length : Int) := by omega
 go_wp2_with fail
 go_loopw [7, 27] (fun n i wr => ∃ k : Nat, k ≤ ws.length ∧ i = .int .i64 k ∧ n = .int .i64 (accW L k : Nat) ∧ Below w'.heap.size w' wr ∧ Blk wr w'.heap.size 9 (ws.map Value.string).toArray ∧ accW L k ≤ 3600000 * k) (fun _ i _ => ws.length - (intOf i).toNat)
 case atStart => exact ⟨0, by omega, rfl, rfl, HB.out, HX.out, by simp [accW]⟩
 case round =>
  clear HB HX
  obtain ⟨k, hk, rfl, rfl, hB, hX, hA⟩ := hrel
  have HB := Lib.hid hB
  have HX := Lib.hid hX
  have HAL := Lib.hid hA
  clear hB hX hA
  by_cases hlt : k < ws.length
  ·have c0 : wr.cell? ⟨w'.heap.size, k, none⟩ = some (.string ws[k]) := by rw [HX.out.cell]; simp [hlt]
   have hl0 := HX.out.lt
   have HK := Lib.hid (HW.out k hlt)
   obtain ⟨wd, hwd⟩ : ∃ b, ws[k] = b := ⟨_, rfl⟩
   rw [hwd] at HK c0
   clear hwd
   rcases (show k = 0 ∨ k = 1 ∨ k = 2 by omega) with rfl | rfl | rfl
   ·skip
    by_cases z0 : wd.size = 0
    ·have z1 : ((wd.size : Int) == 0) = true := by rw [z0]; rfl
     have z2 : decide ((wd.size : Int) = 0) = true := by rw [z0]; rfl
     have HR := Lib.hid (rd_none HG.out (fun m G => by have := G.one; rw [HK.out] at this; have e := Lib.size_eq wd; omega))
     go_wp2_with fail
     go_ret2
     exact ⟨_, _, rfl, HR.out, HB.out⟩
    by_cases z3 : 3 < wd.size
    ·have z4 : (3 : Int) < (wd.size : Int) := by omega
     have z5 : ((wd.size : Int) == 0) = false := by rw [beq_eq_false_iff_ne]; omega
     have HR := Lib.hid (rd_none HG.out (fun m G => by have := G.one; rw [HK.out] at this; have e := Lib.size_eq wd; omega))
     go_wp2_with fail
     go_ret2
     exact ⟨_, _, rfl, HR.out, HB.out⟩
    have z4 : ¬ (3 : Int) < (wd.size : Int) := by omega
    have z5 : ((wd.size : Int) == 0) = false := by rw [beq_eq_false_iff_ne]; omega
    have hw3 : wd.size ≤ 3 := by omega
    obtain ⟨W2, cap2, hrun, hcell, hb2, hz2⟩ := conv_facts wr wd
    have HC2 := Lib.hid hcell
    have HB2 := Lib.hid hb2
    have HZ2 := Lib.hid hz2
    clear hcell hb2 hz2
    go_wp2_with fail
    clear hrun c0 hl0
    go_loop [10, 52] (fun kv j => ∃ i : Nat, i ≤ wd.size ∧ j = .int .i64 i ∧ kv = .int .i64 (dgV (wd.data.toList.take i) : Nat) ∧ Hid (∀ c ∈ wd.data.toList.take i, isDg c)) (fun _ j => wd.size - (intOf j).toNat)
    case atStart => exact ⟨0, by omega, rfl, rfl, Lib.hid (fun c hc => by simp at hc)⟩
    case round =>
     obtain ⟨i, hi, rfl, rfl, HD⟩ := hrel
     have e2 := Lib.hid (show wd.size = wd.data.toList.length from Lib.size_eq _)
     by_cases hil : i < wd.size
     ·have hc : W2.cell? ⟨wr.heap.size, i, none⟩ = some (.int .u8 ((wd.data.toList.getD i 0).toNat : Int)) := HC2.out i hil
      have HTS := Lib.hid (take_snoc (l := wd.data.toList) (j := i) (by have := e2.out; omega))
      have h9 : dgV (wd.data.toList.take i) ≤ 999 := dgV_999 (by rw [List.length_take]; have := e2.out; omega) HD.out
      obtain ⟨c, hcc⟩ : ∃ c, wd.data.toList.getD i 0 = c := ⟨_, rfl⟩
      rw [hcc] at hc HTS
      have HCC := Lib.hid hcc
      clear hcc
      obtain ⟨d, hd⟩ : ∃ d, dgV (wd.data.toList.take i) = d := ⟨_, rfl⟩
      rw [hd] at h9 ⊢
      have HDV := Lib.hid hd
      clear hd
      have hcb : c.toNat < 256 := c.toNat_lt
      by_cases q1 : c.toNat < 48
      ·have q2 : ((c.toNat : Nat) : Int) < 48 := by omega
       have HB := Lib.hid (HB.out.trans (HB2.out.mono HB.out.size))
       have HR := Lib.hid (rd_none HG.out (fun m G => by have h := G.dg 0 (by rw [← hlen.out]; omega) c (by rw [HK.out, ← HCC.out]; exact getD_in (by have := e2.out; omega)); unfold isDg at h; omega))
       go_wp2_with fail
       go_ret2
       exact ⟨_, _, rfl, HR.out, HB.out⟩
      by_cases q3 : 57 < c.toNat
      ·have q2 : ¬ ((c.toNat : Nat) : Int) < 48 := by omega
       have q4 : (57 : Int) < ((c.toNat : Nat) : Int) := by omega
       have HB := Lib.hid (HB.out.trans (HB2.out.mono HB.out.size))
       have HR := Lib.hid (rd_none HG.out (fun m G => by have h := G.dg 0 (by rw [← hlen.out]; omega) c (by rw [HK.out, ← HCC.out]; exact getD_in (by have := e2.out; omega)); unfold isDg at h; omega))
       go_wp2_with fail
       go_ret2
       exact ⟨_, _, rfl, HR.out, HB.out⟩
      have q2 : ¬ ((c.toNat : Nat) : Int) < 48 := by omega
      have q4 : ¬ (57 : Int) < ((c.toNat : Nat) : Int) := by omega
      obtain ⟨cn, hcn⟩ : ∃ n : Nat, c.toNat = n := ⟨_, rfl⟩
      rw [hcn] at hc hcb q1 q2 q3 q4
      have HCN := Lib.hid hcn
      clear hcn
      go_wp2_with fail
      refine ⟨⟨i + 1, by omega, by go_num, ?_, Lib.hid ?_⟩, by simp [intOf]; omega⟩
      ·rw [HTS.out, dgV_snoc, HDV.out, HCN.out]; go_num
      ·rw [HTS.out]; intro x hx; rcases List.mem_append.1 hx with hx | hx
       ·exact HD.out x hx
       ·obtain rfl := List.mem_singleton.1 hx; unfold isDg; rw [HCN.out]; omega
     ·obtain rfl : i = wd.size := by omega
      have htk : wd.data.toList.take wd.size = wd.data.toList := List.take_of_length_le (by have := e2.out; omega)
      rw [htk] at HD ⊢
      clear htk
      have h9 : dgV wd.data.toList ≤ 999 := dgV_999 (by have := e2.out; omega) HD.out
      have HAK := Lib.hid (show accW L (0 + 1) = accW L 0 + dgV wd.data.toList * 3600 from by rw [← HK.out]; rfl)
      obtain ⟨d, hd⟩ : ∃ d, dgV wd.data.toList = d := ⟨_, rfl⟩
      rw [hd] at h9 HAK ⊢
      clear hd
      have ha := HAL.out
      obtain ⟨p, hp⟩ : ∃ p, accW L 0 = p := ⟨_, rfl⟩
      rw [hp] at HAK ha ⊢
      clear hp
      replace HB := Lib.hid (HB.out.trans (HB2.out.mono HB.out.size))
      replace HX := Lib.hid (HX.out.step HB2.out)
      clear HB2 HC2 HZ2
      go_wp2_with fail
      refine ⟨⟨1, by omega, by go_num, ?_, HB.out.alloc HB.out.size _, HX.out.alloc _, ?_⟩, by simp only [intOf]; omega⟩
      ·rw [HAK.out]; go_num
      ·rw [HAK.out]; omega
   ·skip
    by_cases z3 : ¬ wd.size = 2
    ·have z4 : ((wd.size : Int) == 2) = false := by rw [beq_eq_false_iff_ne]; omega
     have HR := Lib.hid (rd_none HG.out (fun m G => by have := G.two 1 (by omega) (by rw [← hlen.out]; omega); rw [HK.out] at this; have e := Lib.size_eq wd; omega))
     go_wp2_with fail
     go_ret2
     exact ⟨_, _, rfl, HR.out, HB.out⟩
    have z4 : (wd.size : Int) = 2 := by omega
    have z5 : ((wd.size : Int) == 2) = true := by rw [z4]; rfl
    have z6 : ((wd.size : Int) == 0) = false := by rw [z4]; rfl
    have hw3 : wd.size ≤ 3 := by omega
    obtain ⟨W2, cap2, hrun, hcell, hb2, hz2⟩ := conv_facts wr wd
    have HC2 := Lib.hid hcell
    have HB2 := Lib.hid hb2
    have HZ2 := Lib.hid hz2
    clear hcell hb2 hz2
    go_wp2_with fail
    clear hrun c0 hl0
    go_loop [10, 52] (fun kv j => ∃ i : Nat, i ≤ wd.size ∧ j = .int .i64 i ∧ kv = .int .i64 (dgV (wd.data.toList.take i) : Nat) ∧ Hid (∀ c ∈ wd.data.toList.take i, isDg c)) (fun _ j => wd.size - (intOf j).toNat)
    case atStart => exact ⟨0, by omega, rfl, rfl, Lib.hid (fun c hc => by simp at hc)⟩
    case round =>
     obtain ⟨i, hi, rfl, rfl, HD⟩ := hrel
     have e2 := Lib.hid (show wd.size = wd.data.toList.length from Lib.size_eq _)
     by_cases hil : i < wd.size
     ·have hc : W2.cell? ⟨wr.heap.size, i, none⟩ = some (.int .u8 ((wd.data.toList.getD i 0).toNat : Int)) := HC2.out i hil
      have HTS := Lib.hid (take_snoc (l := wd.data.toList) (j := i) (by have := e2.out; omega))
      have h9 : dgV (wd.data.toList.take i) ≤ 999 := dgV_999 (by rw [List.length_take]; have := e2.out; omega) HD.out
      obtain ⟨c, hcc⟩ : ∃ c, wd.data.toList.getD i 0 = c := ⟨_, rfl⟩
      rw [hcc] at hc HTS
      have HCC := Lib.hid hcc
      clear hcc
      obtain ⟨d, hd⟩ : ∃ d, dgV (wd.data.toList.take i) = d := ⟨_, rfl⟩
      rw [hd] at h9 ⊢
      have HDV := Lib.hid hd
      clear hd
      have hcb : c.toNat < 256 := c.toNat_lt
      by_cases q1 : c.toNat < 48
      ·have q2 : ((c.toNat : Nat) : Int) < 48 := by omega
       have HB := Lib.hid (HB.out.trans (HB2.out.mono HB.out.size))
       have HR := Lib.hid (rd_none HG.out (fun m G => by have h := G.dg 1 (by rw [← hlen.out]; omega) c (by rw [HK.out, ← HCC.out]; exact getD_in (by have := e2.out; omega)); unfold isDg at h; omega))
       go_wp2_with fail
       go_ret2
       exact ⟨_, _, rfl, HR.out, HB.out⟩
      by_cases q3 : 57 < c.toNat
      ·have q2 : ¬ ((c.toNat : Nat) : Int) < 48 := by omega
       have q4 : (57 : Int) < ((c.toNat : Nat) : Int) := by omega
       have HB := Lib.hid (HB.out.trans (HB2.out.mono HB.out.size))
       have HR := Lib.hid (rd_none HG.out (fun m G => by have h := G.dg 1 (by rw [← hlen.out]; omega) c (by rw [HK.out, ← HCC.out]; exact getD_in (by have := e2.out; omega)); unfold isDg at h; omega))
       go_wp2_with fail
       go_ret2
       exact ⟨_, _, rfl, HR.out, HB.out⟩
      have q2 : ¬ ((c.toNat : Nat) : Int) < 48 := by omega
      have q4 : ¬ (57 : Int) < ((c.toNat : Nat) : Int) := by omega
      obtain ⟨cn, hcn⟩ : ∃ n : Nat, c.toNat = n := ⟨_, rfl⟩
      rw [hcn] at hc hcb q1 q2 q3 q4
      have HCN := Lib.hid hcn
      clear hcn
      go_wp2_with fail
      refine ⟨⟨i + 1, by omega, by go_num, ?_, Lib.hid ?_⟩, by simp [intOf]; omega⟩
      ·rw [HTS.out, dgV_snoc, HDV.out, HCN.out]; go_num
      ·rw [HTS.out]; intro x hx; rcases List.mem_append.1 hx with hx | hx
       ·exact HD.out x hx
       ·obtain rfl := List.mem_singleton.1 hx; unfold isDg; rw [HCN.out]; omega
     ·obtain rfl : i = wd.size := by omega
      have htk : wd.data.toList.take wd.size = wd.data.toList := List.take_of_length_le (by have := e2.out; omega)
      rw [htk] at HD ⊢
      clear htk
      have h9 : dgV wd.data.toList ≤ 999 := dgV_999 (by have := e2.out; omega) HD.out
      have HAK := Lib.hid (show accW L (1 + 1) = accW L 1 + dgV wd.data.toList * 60 from by rw [← HK.out]; rfl)
      obtain ⟨d, hd⟩ : ∃ d, dgV wd.data.toList = d := ⟨_, rfl⟩
      rw [hd] at h9 HAK ⊢
      clear hd
      have ha := HAL.out
      obtain ⟨p, hp⟩ : ∃ p, accW L 1 = p := ⟨_, rfl⟩
      rw [hp] at HAK ha ⊢
      clear hp
      replace HB := Lib.hid (HB.out.trans (HB2.out.mono HB.out.size))
      replace HX := Lib.hid (HX.out.step HB2.out)
      clear HB2 HC2 HZ2
      go_wp2_with fail
      refine ⟨⟨2, by omega, by go_num, ?_, HB.out.alloc HB.out.size _, HX.out.alloc _, ?_⟩, by simp only [intOf]; omega⟩
      ·rw [HAK.out]; go_num
      ·rw [HAK.out]; omega
   ·skip
    by_cases z3 : ¬ wd.size = 2
    ·have z4 : ((wd.size : Int) == 2) = false := by rw [beq_eq_false_iff_ne]; omega
     have HR := Lib.hid (rd_none HG.out (fun m G => by have := G.two 2 (by omega) (by rw [← hlen.out]; omega); rw [HK.out] at this; have e := Lib.size_eq wd; omega))
     go_wp2_with fail
     go_ret2
     exact ⟨_, _, rfl, HR.out, HB.out⟩
    have z4 : (wd.size : Int) = 2 := by omega
    have z5 : ((wd.size : Int) == 2) = true := by rw [z4]; rfl
    have z6 : ((wd.size : Int) == 0) = false := by rw [z4]; rfl
    have hw3 : wd.size ≤ 3 := by omega
    obtain ⟨W2, cap2, hrun, hcell, hb2, hz2⟩ := conv_facts wr wd
    have HC2 := Lib.hid hcell
    have HB2 := Lib.hid hb2
    have HZ2 := Lib.hid hz2
    clear hcell hb2 hz2
    go_wp2_with fail
    clear hrun c0 hl0
    go_loop [10, 52] (fun kv j => ∃ i : Nat, i ≤ wd.size ∧ j = .int .i64 i ∧ kv = .int .i64 (dgV (wd.data.toList.take i) : Nat) ∧ Hid (∀ c ∈ wd.data.toList.take i, isDg c)) (fun _ j => wd.size - (intOf j).toNat)
    case atStart => exact ⟨0, by omega, rfl, rfl, Lib.hid (fun c hc => by simp at hc)⟩
    case round =>
     obtain ⟨i, hi, rfl, rfl, HD⟩ := hrel
     have e2 := Lib.hid (show wd.size = wd.data.toList.length from Lib.size_eq _)
     by_cases hil : i < wd.size
     ·have hc : W2.cell? ⟨wr.heap.size, i, none⟩ = some (.int .u8 ((wd.data.toList.getD i 0).toNat : Int)) := HC2.out i hil
      have HTS := Lib.hid (take_snoc (l := wd.data.toList) (j := i) (by have := e2.out; omega))
      have h9 : dgV (wd.data.toList.take i) ≤ 999 := dgV_999 (by rw [List.length_take]; have := e2.out; omega) HD.out
      obtain ⟨c, hcc⟩ : ∃ c, wd.data.toList.getD i 0 = c := ⟨_, rfl⟩
      rw [hcc] at hc HTS
      have HCC := Lib.hid hcc
      clear hcc
      obtain ⟨d, hd⟩ : ∃ d, dgV (wd.data.toList.take i) = d := ⟨_, rfl⟩
      rw [hd] at h9 ⊢
      have HDV := Lib.hid hd
      clear hd
      have hcb : c.toNat < 256 := c.toNat_lt
      by_cases q1 : c.toNat < 48
      ·have q2 : ((c.toNat : Nat) : Int) < 48 := by omega
       have HB := Lib.hid (HB.out.trans (HB2.out.mono HB.out.size))
       have HR := Lib.hid (rd_none HG.out (fun m G => by have h := G.dg 2 (by rw [← hlen.out]; omega) c (by rw [HK.out, ← HCC.out]; exact getD_in (by have := e2.out; omega)); unfold isDg at h; omega))
       go_wp2_with fail
       go_ret2
       exact ⟨_, _, rfl, HR.out, HB.out⟩
      by_cases q3 : 57 < c.toNat
      ·have q2 : ¬ ((c.toNat : Nat) : Int) < 48 := by omega
       have q4 : (57 : Int) < ((c.toNat : Nat) : Int) := by omega
       have HB := Lib.hid (HB.out.trans (HB2.out.mono HB.out.size))
       have HR := Lib.hid (rd_none HG.out (fun m G => by have h := G.dg 2 (by rw [← hlen.out]; omega) c (by rw [HK.out, ← HCC.out]; exact getD_in (by have := e2.out; omega)); unfold isDg at h; omega))
       go_wp2_with fail
       go_ret2
       exact ⟨_, _, rfl, HR.out, HB.out⟩
      have q2 : ¬ ((c.toNat : Nat) : Int) < 48 := by omega
      have q4 : ¬ (57 : Int) < ((c.toNat : Nat) : Int) := by omega
      obtain ⟨cn, hcn⟩ : ∃ n : Nat, c.toNat = n := ⟨_, rfl⟩
      rw [hcn] at hc hcb q1 q2 q3 q4
      have HCN := Lib.hid hcn
      clear hcn
      go_wp2_with fail
      refine ⟨⟨i + 1, by omega, by go_num, ?_, Lib.hid ?_⟩, by simp [intOf]; omega⟩
      ·rw [HTS.out, dgV_snoc, HDV.out, HCN.out]; go_num
      ·rw [HTS.out]; intro x hx; rcases List.mem_append.1 hx with hx | hx
       ·exact HD.out x hx
       ·obtain rfl := List.mem_singleton.1 hx; unfold isDg; rw [HCN.out]; omega
     ·obtain rfl : i = wd.size := by omega
      have htk : wd.data.toList.take wd.size = wd.data.toList := List.take_of_length_le (by have := e2.out; omega)
      rw [htk] at HD ⊢
      clear htk
      have h9 : dgV wd.data.toList ≤ 999 := dgV_999 (by have := e2.out; omega) HD.out
      have HAK := Lib.hid (show accW L (2 + 1) = accW L 2 + dgV wd.data.toList * 1 from by rw [← HK.out]; rfl)
      obtain ⟨d, hd⟩ : ∃ d, dgV wd.data.toList = d := ⟨_, rfl⟩
      rw [hd] at h9 HAK ⊢
      clear hd
      have ha := HAL.out
      obtain ⟨p, hp⟩ : ∃ p, accW L 2 = p := ⟨_, rfl⟩
      rw [hp] at HAK ha ⊢
      clear hp
      replace HB := Lib.hid (HB.out.trans (HB2.out.mono HB.out.size))
      replace HX := Lib.hid (HX.out.step HB2.out)
      clear HB2 HC2 HZ2
      go_wp2_with fail
      refine ⟨⟨3, by omega, by go_num, ?_, HB.out.alloc HB.out.size _, HX.out.alloc _, ?_⟩, by simp only [intOf]; omega⟩
      ·rw [HAK.out]; go_num
      ·rw [HAK.out]; omega
  ·obtain rfl : k = ws.length := by omega
   have hA := HAL.out
   have HY := Lib.hid (show (∃ m, GoodW L m) → -(accW L ws.length : Int) = sgnV true (accW L L.length : Nat) from fun _ => by rw [← hlen.out]; rfl)
   obtain ⟨y, hy⟩ : ∃ y, accW L ws.length = y := ⟨_, rfl⟩
   rw [hy] at HY hA ⊢
   clear hy
   go_wp2_with fail
   refine (r_span_any _ _).mono ?_
   rintro e w2 ⟨u, er, rfl, ho, hb⟩
   replace HB := Lib.hid (HB.out.trans (hb.mono HB.out.size))
   clear hb
   rcases ho with ⟨ho, rfl, rfl⟩ | ⟨ho, rfl⟩
   ·by_cases hs2 : spV (-(y : Int)) = s
    ·have hd : ((spV (-(y : Int))).toList == s.toList) = true := by rw [hs2]; exact beq_self_eq_true _
     have HR : Hid (RdIs s (-(y : Int)) 0) := Lib.hid (Or.inl ⟨ho, hs2, rfl⟩)
     go_wp2_with fail
     go_ret2
     exact ⟨_, _, rfl, HR.out, HB.out⟩
    ·have hd : ((spV (-(y : Int))).toList == s.toList) = false := str_ne hs2
     have HR := Lib.hid (rd_fin HG.out HY.out (fun _ => hs2))
     go_wp2_with fail
     go_ret2
     exact ⟨_, _, rfl, HR.out, HB.out⟩
   ·have HR := Lib.hid (rd_fin HG.out HY.out (fun h => absurd (ho.symm.trans h) (by decide)))
    go_wp2_with fail
    go_ret2
    exact ⟨_, _, rfl, HR.out, HB.out⟩
theorem r_SpanRead (s : ByteArray) (hs : s.size < 4294967281) (w : World) :
  Calls Tryz.prog 25 #[.string s] w fun e w' => ∃ a b, e = .returned (.tuple #[.int .i64 a, .int .i64 b]) ∧ RdIs s a b ∧ Below w.heap.size w w' := by
 cases h : negOf s with
 | false => exact r_SpanRead_false s hs h w
 | true => exact r_SpanRead_true s hs h w
end Go.Proofs.YthppifcggmdmoaaGreatDoor

