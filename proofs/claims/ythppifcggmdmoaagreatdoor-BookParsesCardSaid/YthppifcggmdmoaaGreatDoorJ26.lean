/- Part 26 of the proof of BookParses: no condition; what its declarations say stands at each. -/
import Derived.Test.YthppifcggmdmoaaGreatDoorJ02
import Derived.Lib.ConvBytes
import Derived.Test.YthppifcggmdmoaaGreatDoorJ03
import Derived.Test.YthppifcggmdmoaaGreatDoorJ16
namespace Go.Proofs.YthppifcggmdmoaaGreatDoor
open Go.RowKit
set_option linter.unusedVariables false
theorem conv_facts (w : World) (s : ByteArray) : ∃ (W1 : World) (cap : Nat),
  (Go.convert 9 125 (.string s)).run Tryz.prog w = .ok (.slice (some ⟨w.heap.size, 0, none⟩) s.size cap) W1 ∧
  (∀ j, j < s.size → W1.cell? ⟨w.heap.size, j, none⟩ = some (.int .u8 ((s.data.toList.getD j 0).toNat : Int))) ∧ Below w.heap.size w W1 ∧ W1.heap.size = w.heap.size + 1 := by
 refine ⟨_, _, Lib.run_convert_string_bytes w _ _ 5 s Tryz.underlying9 Tryz.underlying125 Tryz.underlying5, fun j hj => Lib.bytesWorld_cell w _ s j hj, ?_, Lib.bytesWorld_size w _ s⟩
 refine ⟨?_, ?_, ?_, by rw [Lib.bytesWorld_size]; omega, fun k hk => Lib.bytesWorld_at_old w _ s k hk⟩
 all_goals rfl
end Go.Proofs.YthppifcggmdmoaaGreatDoor

namespace Go.Proofs.YthppifcggmdmoaaGreatDoor
open Go.RowKit
set_option linter.unusedVariables false

set_option maxRecDepth 100000 in
set_option maxHeartbeats 2000000 in
theorem r_letters (s o : ByteArray) (hs : s.size ≤ maxLen) (ho : o.size ≤ maxLen) (w : World) :
  Calls Tryz.prog 64 #[.string s, .string o] w fun e w' => e = .returned (.bool (lettersB o.data.toList s.data.toList)) ∧ Below w.heap.size w w' := by
 unfold maxLen at hs ho
 obtain ⟨W1, cap, hrun, hcell, hb1, hz1⟩ := conv_facts w s
 have HC := Lib.hid hcell
 have HZ := Lib.hid hz1
 have HB1 := Lib.hid hb1
 clear hcell hz1 hb1
 go_enter Tryz.func64, Tryz.ntmps64
 go_wp2_with fail
 clear hrun
 go_loopw [13] (fun i wr => ∃ k : Nat, k ≤ s.size ∧ i = .int .i64 k ∧ Hid (lettersB o.data.toList (s.data.toList.take k) = true) ∧ Hid (Below (w.heap.size + 1) W1 wr)) (fun i _ => s.size - (intOf i).toNat)
 case atStart => exact ⟨0, Nat.zero_le _, rfl, Lib.hid rfl, Lib.hid (Below.refl _ _)⟩
 case round =>
  obtain ⟨k, hk, rfl, HL, HBR⟩ := hrel
  by_cases hlt : k < s.size
  ·have hc : wr.cell? ⟨w.heap.size, k, none⟩ = some (.int .u8 ((s.data.toList.getD k 0).toNat : Int)) := by
    rw [HBR.out.cell (by simp)]; exact HC.out k hlt
   obtain ⟨c, hcc⟩ : ∃ c, s.data.toList.getD k 0 = c := ⟨_, rfl⟩
   rw [hcc] at hc
   have HCC := Lib.hid hcc
   clear hcc
   have HS := Lib.hid (lettersB_snoc o.data.toList s.data.toList k (by simpa using hlt))
   have HB := Lib.hid (lettersB_bad o.data.toList s.data.toList k (by simpa using hlt))
   have HG : Hid (s.data.toList[k]'(by simpa using hlt) = c) := Lib.hid (by rw [← getD_get]; exact HCC.out)
   obtain ⟨W2, cap2, hrun2, hcell2, hb2, hz2⟩ := conv_facts wr o
   have HC2 := Lib.hid hcell2
   have HB2 := Lib.hid hb2
   have HZ2 := Lib.hid hz2
   have HSZ := Lib.hid (HBR.out.size)
   clear hcell2 hb2 hz2
   rcases byte_cases c with ⟨hb, hI⟩ | ⟨hb, hI⟩
   all_goals
    have HI := Lib.hid hI
    clear hI
   ·rcases hb with hb | hb | hb | hb
    all_goals
     go_wp2_with fail
     clear hrun2
     go_loop [7, 42] (fun b i => ∃ j : Nat, j ≤ o.size ∧ i = .int .i64 j ∧ b = .bool ((isLetB c || isDigB c) || (o.data.toList.take j).contains c)) (fun _ i => o.size - (intOf i).toNat)
     case atStart =>
      refine ⟨0, Nat.zero_le _, rfl, congrArg Value.bool ?_⟩
      rw [HI.out, List.take_zero]
      first | rfl | (rw [Bool.eq_iff_iff]; simp only [Bool.or_eq_true, decide_eq_true_eq, List.contains_nil, Bool.false_eq_true, or_false, iff_false, not_or]; omega) | (rw [Bool.eq_iff_iff]; simp only [decide_eq_true_eq, List.contains_nil, Bool.false_eq_true, or_false, iff_false]; omega)
     case round =>
      clear hc
      obtain ⟨j, hj, rfl, rfl⟩ := hrel
      by_cases hjl : j < o.size
      ·have hc : W2.cell? ⟨wr.heap.size, j, none⟩ = some (.int .u8 ((o.data.toList.getD j 0).toNat : Int)) := HC2.out j hjl
       have hj' : j < o.data.toList.length := by simpa using hjl
       rw [getD_get _ _ hj'] at hc
       obtain ⟨x, hx⟩ : ∃ x, o.data.toList[j] = x := ⟨_, rfl⟩
       rw [hx] at hc
       have HS2 := Lib.hid (contains_snoc o.data.toList j hj' c)
       have HX := Lib.hid hx
       clear hx
       by_cases hq : ((isLetB c || isDigB c) || (o.data.toList.take j).contains c) = true
       ·rw [hq]
        have HQ := Lib.hid hq
        clear hq
        go_wp2_with fail
        exact ⟨⟨j + 1, by omega, by go_num, congrArg Value.bool (by rw [HS2.out, ← Bool.or_assoc, HQ.out]; rfl)⟩, by simp [intOf]; omega⟩
       ·have hq' := eq_false_of_ne_true hq
        clear hq
        rw [hq']
        have HQ := Lib.hid hq'
        clear hq'
        by_cases hcx : c = x
        ·subst hcx
         go_wp2_with fail
         exact ⟨⟨j + 1, by omega, by go_num, congrArg Value.bool (by rw [HS2.out, ← Bool.or_assoc, HQ.out, HX.out]; simp)⟩, by simp [intOf]; omega⟩
        ·have hne : ((c.toNat : Int) == (x.toNat : Int)) = false := by
          rw [beq_eq_false_iff_ne]; intro h; exact hcx (UInt8.toNat_inj.1 (by omega))
         have HN := Lib.hid hcx
         clear hcx
         go_wp2_with fail
         exact ⟨⟨j + 1, by omega, by go_num, congrArg Value.bool (by rw [HS2.out, ← Bool.or_assoc, HQ.out, HX.out, beq_eq_false_iff_ne.2 HN.out]; rfl)⟩, by simp [intOf]; omega⟩
      ·obtain rfl : j = o.size := by omega
       have htk : o.data.toList.take o.size = o.data.toList := List.take_of_length_le (by simp)
       rw [htk]
       have HO : Hid (okB o.data.toList (s.data.toList[k]'(by simpa using hlt)) = (isLetB c || isDigB c || o.data.toList.contains c)) := Lib.hid (by rw [HG.out]; rfl)
       clear htk
       by_cases hq : (isLetB c || isDigB c || o.data.toList.contains c) = true
       ·have HQ := Lib.hid hq
        rw [hq]
        clear hq
        go_wp2_with fail
        exact ⟨⟨k + 1, by omega, by go_num, Lib.hid (by rw [HS.out, HL.out, HO.out, HQ.out]; rfl), Lib.hid (HBR.out.trans (HB2.out.mono (by have := HSZ.out; have := HZ.out; omega)))⟩, by simp [intOf]; omega⟩
       ·have hq' := eq_false_of_ne_true hq
        clear hq
        have HQ := Lib.hid hq'
        rw [hq']
        clear hq'
        go_wp2_with fail
        go_ret
        refine ⟨ret_bool (HB.out (by rw [HO.out, HQ.out])).symm, HB1.out.trans ((HBR.out.trans (HB2.out.mono (by have := HSZ.out; have := HZ.out; omega))).mono (by omega))⟩
   ·rcases hb with hb | hb | hb
    all_goals
     go_wp2_with fail
     clear hrun2
     go_loop [7, 42] (fun b i => ∃ j : Nat, j ≤ o.size ∧ i = .int .i64 j ∧ b = .bool ((isLetB c || isDigB c) || (o.data.toList.take j).contains c)) (fun _ i => o.size - (intOf i).toNat)
     case atStart =>
      refine ⟨0, Nat.zero_le _, rfl, congrArg Value.bool ?_⟩
      rw [HI.out, List.take_zero]
      first | rfl | (rw [Bool.eq_iff_iff]; simp only [Bool.or_eq_true, decide_eq_true_eq, List.contains_nil, Bool.false_eq_true, or_false, iff_true]; omega) | (rw [Bool.eq_iff_iff]; simp only [decide_eq_true_eq, List.contains_nil, Bool.false_eq_true, or_false, iff_false]; omega)
     case round =>
      clear hc
      obtain ⟨j, hj, rfl, rfl⟩ := hrel
      by_cases hjl : j < o.size
      ·have hc : W2.cell? ⟨wr.heap.size, j, none⟩ = some (.int .u8 ((o.data.toList.getD j 0).toNat : Int)) := HC2.out j hjl
       have hj' : j < o.data.toList.length := by simpa using hjl
       rw [getD_get _ _ hj'] at hc
       obtain ⟨x, hx⟩ : ∃ x, o.data.toList[j] = x := ⟨_, rfl⟩
       rw [hx] at hc
       have HS2 := Lib.hid (contains_snoc o.data.toList j hj' c)
       have HX := Lib.hid hx
       clear hx
       by_cases hq : ((isLetB c || isDigB c) || (o.data.toList.take j).contains c) = true
       ·rw [hq]
        have HQ := Lib.hid hq
        clear hq
        go_wp2_with fail
        exact ⟨⟨j + 1, by omega, by go_num, congrArg Value.bool (by rw [HS2.out, ← Bool.or_assoc, HQ.out]; rfl)⟩, by simp [intOf]; omega⟩
       ·have hq' := eq_false_of_ne_true hq
        clear hq
        rw [hq']
        have HQ := Lib.hid hq'
        clear hq'
        by_cases hcx : c = x
        ·subst hcx
         go_wp2_with fail
         exact ⟨⟨j + 1, by omega, by go_num, congrArg Value.bool (by rw [HS2.out, ← Bool.or_assoc, HQ.out, HX.out]; simp)⟩, by simp [intOf]; omega⟩
        ·have hne : ((c.toNat : Int) == (x.toNat : Int)) = false := by
          rw [beq_eq_false_iff_ne]; intro h; exact hcx (UInt8.toNat_inj.1 (by omega))
         have HN := Lib.hid hcx
         clear hcx
         go_wp2_with fail
         exact ⟨⟨j + 1, by omega, by go_num, congrArg Value.bool (by rw [HS2.out, ← Bool.or_assoc, HQ.out, HX.out, beq_eq_false_iff_ne.2 HN.out]; rfl)⟩, by simp [intOf]; omega⟩
      ·obtain rfl : j = o.size := by omega
       have htk : o.data.toList.take o.size = o.data.toList := List.take_of_length_le (by simp)
       rw [htk]
       have HO : Hid (okB o.data.toList (s.data.toList[k]'(by simpa using hlt)) = (isLetB c || isDigB c || o.data.toList.contains c)) := Lib.hid (by rw [HG.out]; rfl)
       clear htk
       by_cases hq : (isLetB c || isDigB c || o.data.toList.contains c) = true
       ·have HQ := Lib.hid hq
        rw [hq]
        clear hq
        go_wp2_with fail
        exact ⟨⟨k + 1, by omega, by go_num, Lib.hid (by rw [HS.out, HL.out, HO.out, HQ.out]; rfl), Lib.hid (HBR.out.trans (HB2.out.mono (by have := HSZ.out; have := HZ.out; omega)))⟩, by simp [intOf]; omega⟩
       ·have hq' := eq_false_of_ne_true hq
        clear hq
        have HQ := Lib.hid hq'
        rw [hq']
        clear hq'
        go_wp2_with fail
        go_ret
        refine ⟨ret_bool (HB.out (by rw [HO.out, HQ.out])).symm, HB1.out.trans ((HBR.out.trans (HB2.out.mono (by have := HSZ.out; have := HZ.out; omega))).mono (by omega))⟩
  ·obtain rfl : k = s.size := by omega
   have HX : Hid (lettersB o.data.toList s.data.toList = true) := Lib.hid (by have := HL.out; rwa [List.take_of_length_le (by simp)] at this)
   clear HL
   go_wp2_with fail
   go_ret
   exact ⟨ret_bool HX.out.symm, HB1.out.trans (HBR.out.mono (by omega))⟩
end Go.Proofs.YthppifcggmdmoaaGreatDoor

namespace Go.Proofs.YthppifcggmdmoaaGreatDoor
open Go.RowKit
set_option linter.unusedVariables false

set_option maxHeartbeats 1000000 in
theorem r_IsAbbr (s : ByteArray) (hs : s.size ≤ maxLen) (w : World) :
  Calls Tryz.prog 114 #[.string s] w fun e w' => e = .returned (.bool (isAbbrB s.data.toList)) ∧ Below w.heap.size w w' := by
 have hs' := hs
 unfold maxLen at hs'
 by_cases h : 1 ≤ s.size ∧ s.size ≤ 8
 ·have HX := Lib.hid (show isAbbrB s.data.toList = lettersB [43, 45] s.data.toList by rw [isAbbrB, allB, size_len, decide_eq_true h, Bool.and_true])
  obtain ⟨h1, h2⟩ := h
  have ho : decide ((s.size : Int) < 1 ∨ 8 < (s.size : Int)) = false := by simp; omega
  go_enter Tryz.func114, Tryz.ntmps114
  go_wp2_with (first | (go_at_call 24; refine (r_outside _ _ _ _).mono ?_; rintro e w' ⟨rfl, rfl⟩) | (go_at_call 64; refine (r_letters s ⟨#[43, 45]⟩ hs (by unfold maxLen; decide) _).mono ?_; rintro e w1 ⟨rfl, hb⟩))
  go_ret
  exact ⟨ret_bool HX.out.symm, hb⟩
 ·have HX := Lib.hid (show isAbbrB s.data.toList = false by rw [isAbbrB, allB, size_len, decide_eq_false h, Bool.and_false])
  have ho : decide ((s.size : Int) < 1 ∨ 8 < (s.size : Int)) = true := by simp; omega
  clear h
  go_enter Tryz.func114, Tryz.ntmps114
  go_wp2_with (first | (go_at_call 24; refine (r_outside _ _ _ _).mono ?_; rintro e w' ⟨rfl, rfl⟩))
  go_ret
  exact ⟨ret_bool HX.out.symm, (by repeat (first | exact Below.refl _ _ | assumption | apply Below.drew | apply below_drewN | (refine Below.alloc ?_ (by simp; try omega) _) | (refine Below.setCell ?_ (by simp; try omega) _)))⟩

theorem first_letter (s : ByteArray) (h : 0 < s.size) : lettersB [] (s.extract 0 1).data.toList = (isLetB s[0] || isDigB s[0]) := by
 rw [extract_one s 0 h]; simp [lettersB, okB]
set_option maxHeartbeats 1000000 in
theorem r_IsName (s : ByteArray) (hs : s.size ≤ maxLen) (w : World) :
  Calls Tryz.prog 27 #[.string s] w fun e w' => e = .returned (.bool (isNameB s.data.toList)) ∧ Below w.heap.size w w' := by
 have hs' := hs
 unfold maxLen at hs'
 by_cases h : 1 ≤ s.size ∧ s.size ≤ 20
 ·have hx : isNameB s.data.toList = (lettersB [95, 47, 45] s.data.toList && isLetB s[0]) := by rw [isNameB, allB, size_len, decide_eq_true h, Bool.and_true, head_get s h.1]
  obtain ⟨h1, h2⟩ := h
  have ho : decide ((s.size : Int) < 1 ∨ 20 < (s.size : Int)) = false := by simp; omega
  have hf := first_letter s h1
  by_cases hl : lettersB [95, 47, 45] s.data.toList = true
  ·rw [hl, Bool.true_and] at hx
   have hc : (isLetB s[0] || isDigB s[0]) = true ∧ (48 ≤ s[0].toNat ∧ s[0].toNat ≤ 57) ∧ isLetB s[0] = false ∨ (isLetB s[0] || isDigB s[0]) = true ∧ s[0].toNat < 48 ∧ isLetB s[0] = true ∨ (isLetB s[0] || isDigB s[0]) = true ∧ 57 < s[0].toNat ∧ isLetB s[0] = true ∨ (isLetB s[0] || isDigB s[0]) = false ∧ isLetB s[0] = false := by
    by_cases h3 : 48 ≤ s[0].toNat ∧ s[0].toNat ≤ 57
    ·rw [isDigB_t h3, isLetB_f (by omega)]; simp [h3]
    ·rw [isDigB_f h3]
     by_cases h4 : isLetB s[0] = true
     ·rw [h4]; simp; omega
     ·rw [eq_false_of_ne_true h4]; simp
   rcases hc with ⟨hf2, ⟨n1, n2⟩, hL⟩ | ⟨hf2, n1, hL⟩ | ⟨hf2, n1, hL⟩ | ⟨hf2, hL⟩
   all_goals
    rw [hL] at hx
    rw [hf2] at hf
    have HX := Lib.hid hx
    have HF := Lib.hid hf
    have HL2 := Lib.hid hl
    clear hx hf hf2 hL hl
    go_enter Tryz.func27, Tryz.ntmps27
    go_wp2_with (first | (go_at_call 24; refine (r_outside _ _ _ _).mono ?_; rintro e w' ⟨rfl, rfl⟩))
    refine (r_letters s ⟨#[95, 47, 45]⟩ hs (by unfold maxLen; decide) _).mono ?_
    rintro e w1 ⟨rfl, hb⟩
    rw [HL2.out]
    go_wp2_with fail
    refine (r_letters _ ⟨#[]⟩ (by unfold maxLen; simp; omega) (by unfold maxLen; decide) _).mono ?_
    rintro e w2 ⟨rfl, hb2⟩
    rw [HF.out]
    go_wp2_with fail
    go_ret
    exact ⟨ret_bool (by rw [HX.out] <;> first | rfl | (simp <;> omega)), hb.trans (hb2.mono hb.size)⟩
  ·have hl' := eq_false_of_ne_true hl
   rw [hl', Bool.false_and] at hx
   have HX := Lib.hid hx
   have HL2 := Lib.hid hl'
   clear hx hl hl' hf
   go_enter Tryz.func27, Tryz.ntmps27
   go_wp2_with (first | (go_at_call 24; refine (r_outside _ _ _ _).mono ?_; rintro e w' ⟨rfl, rfl⟩))
   refine (r_letters s ⟨#[95, 47, 45]⟩ hs (by unfold maxLen; decide) _).mono ?_
   rintro e w1 ⟨rfl, hb⟩
   rw [HL2.out]
   go_wp2_with fail
   go_ret
   exact ⟨ret_bool HX.out.symm, hb⟩
 ·have HX := Lib.hid (show isNameB s.data.toList = false by rw [isNameB, allB, size_len, decide_eq_false h, Bool.and_false]; rfl)
  have ho : decide ((s.size : Int) < 1 ∨ 20 < (s.size : Int)) = true := by simp; omega
  clear h
  go_enter Tryz.func27, Tryz.ntmps27
  go_wp2_with (first | (go_at_call 24; refine (r_outside _ _ _ _).mono ?_; rintro e w' ⟨rfl, rfl⟩))
  go_ret
  exact ⟨ret_bool HX.out.symm, (by repeat (first | exact Below.refl _ _ | assumption | apply Below.drew | apply below_drewN | (refine Below.alloc ?_ (by simp; try omega) _) | (refine Below.setCell ?_ (by simp; try omega) _)))⟩
end Go.Proofs.YthppifcggmdmoaaGreatDoor

