/- Part 35 of the proof of BookParses: no condition; what its declarations say stands at each. -/
import Derived.Test.YthppifcggmdmoaaGreatDoorJ31
import Derived.Test.YthppifcggmdmoaaGreatDoorJ32
import Derived.Test.YthppifcggmdmoaaGreatDoorJ33
import Derived.Test.YthppifcggmdmoaaGreatDoorJ34
import Derived.Test.YthppifcggmdmoaaGreatDoorJ08
import Derived.Test.YthppifcggmdmoaaGreatDoorJ06
import Derived.Test.YthppifcggmdmoaaGreatDoorJ26
import Derived.Test.YthppifcggmdmoaaGreatDoorJ03
import Derived.Test.YthppifcggmdmoaaGreatDoorJ30
namespace Go.Proofs.YthppifcggmdmoaaGreatDoor
open Go.RowKit
set_option linter.unusedVariables false
set_option maxRecDepth 100000 in
set_option maxHeartbeats 2000000 in
theorem r_DayText (k wd n : Int) (w : World) :
  Calls Tryz.prog 112 #[.agg #[.int .i64 k, .int .i64 wd, .int .i64 n]] w fun e w' => e = .returned (.tuple #[.string (dtV k wd n), .int .i64 (dcE k wd n)]) ∧ Below w.heap.size w w' := by
 cases h : dcOk k wd n with
 | false =>
  rw [dtV_no h, dcE_no h]
  have hE := dcE_no h
  clear h
  go_enter Tryz.func112, Tryz.ntmps112
  go_wp2_with fail
  refine (r_DayCheck _ _ _ _).mono ?_
  rintro e w1 ⟨rfl, hb⟩
  obtain ⟨c0, c1, c2, hz, hb'⟩ := box3 hb
  clear hb
  go_wp2_with fail
  go_ret2
  exact ⟨rfl, hb'⟩
 | true =>
  rw [dtV_ok h, dcE_ok h]
  have hE := dcE_ok h
  obtain ⟨hk, ⟨j, rfl, hj⟩, m, rfl, hm⟩ := day_cases h
  rcases hk with rfl | rfl | rfl | rfl
  ·exact r_DayText_1 j m hj hm hE w
  ·exact r_DayText_2 j m hj hm hE w
  ·exact r_DayText_3 j m hj hm hE w
  ·exact r_DayText_4 j m hj hm hE w
end Go.Proofs.YthppifcggmdmoaaGreatDoor

namespace Go.Proofs.YthppifcggmdmoaaGreatDoor
open Go.RowKit
set_option linter.unusedVariables false
def Nx (s : ByteArray) (K W N : Int) : Prop := ∀ k wd n, dcOk k wd n = true → dtV k wd n = s → ¬ (k < K ∨ (k = K ∧ wd < W) ∨ (k = K ∧ wd = W ∧ n < N))
theorem nx_start (s : ByteArray) : Nx s 1 0 0 := by intro k wd n h _; have := dcOk_iff.1 h; omega
theorem nx_word {s : ByteArray} {K W : Int} (H : Nx s K W 32) : Nx s K (W + 1) 0 := by intro k wd n h e; have a := dcOk_iff.1 h; have b := H k wd n h e; omega
theorem nx_kind {s : ByteArray} {K : Int} (H : Nx s K 7 0) : Nx s (K + 1) 0 0 := by intro k wd n h e; have a := dcOk_iff.1 h; have b := H k wd n h e; omega
theorem nx_next {s : ByteArray} {K W N : Int} (H : Nx s K W N) (h0 : dcOk K W N = true → dtV K W N ≠ s) : Nx s K W (N + 1) := by
 intro k wd n h e
 have b := H k wd n h e
 by_cases q : k = K ∧ wd = W ∧ n = N
 ·obtain ⟨rfl, rfl, rfl⟩ := q
  exact absurd e (h0 h)
 ·omega
theorem nx_end {s : ByteArray} (H : Nx s 5 0 0) : RdDy s 0 0 0 3 := Or.inr ⟨fun k wd n h e => by have a := dcOk_iff.1 h; have b := H k wd n h e; omega, rfl, rfl, rfl, rfl⟩
set_option maxRecDepth 100000 in
set_option maxHeartbeats 8000000 in
theorem r_DayRead (s : ByteArray) (w : World) :
  Calls Tryz.prog 59 #[.string s] w fun e w' => ∃ k wd n er, e = .returned (.tuple #[.agg #[.int .i64 k, .int .i64 wd, .int .i64 n], .int .i64 er]) ∧ RdDy s k wd n er ∧ Below w.heap.size w w' := by
 have HF := Lib.hid (Blk.new w #[.int .i64 0, .int .i64 0, .int .i64 0] 68)
 have HB := Lib.hid ((Below.refl w.heap.size w).alloc (Nat.le_refl _) (.cells #[.int .i64 0, .int .i64 0, .int .i64 0] 68))
 obtain ⟨W, hW⟩ : ∃ W, w.alloc (.cells #[.int .i64 0, .int .i64 0, .int .i64 0] 68) = W := ⟨_, rfl⟩
 rw [hW] at HF HB
 go_enter Tryz.func59, Tryz.ntmps59
 go_wp2_with fail
 try rw [hW]
 clear hW
 obtain ⟨g, hg⟩ : ∃ g, w.heap.size = g := ⟨_, rfl⟩
 rw [hg] at HF HB ⊢
 have HG := Lib.hid (Nat.le_of_eq hg)
 clear hg
 go_loopw [4] (fun kk wr => ∃ K : Nat, 1 ≤ K ∧ K ≤ 5 ∧ kk = .int .i64 K ∧ Blk wr g 68 #[.int .i64 0, .int .i64 0, .int .i64 0] ∧ Below g w wr ∧ Hid (Nx s K 0 0)) (fun kk _ => 5 - (intOf kk).toNat)
 case atStart => exact ⟨1, by omega, by omega, rfl, HF.out, HB.out, Lib.hid (nx_start s)⟩
 case round =>
  clear HF HB
  obtain ⟨K, hK1, hK5, rfl, hF, hB, HN⟩ := hrel
  have HF := Lib.hid hF
  have HB := Lib.hid hB
  clear hF hB
  by_cases hk5 : K = 5
  ·subst hk5
   have HR := Lib.hid (nx_end HN.out)
   have q0 := HF.out.cell 0
   have q1 := HF.out.cell 1
   have q2 := HF.out.cell 2
   have y0 := HF.out.frz 0
   have y1 := HF.out.frz 1
   have y2 := HF.out.frz 2
   have yl := HF.out.lt
   simp at q0 q1 q2
   go_wp2_with fail
   have HFF := Lib.hid (show Blk ((((wr).setCell ⟨g, 0, none⟩ (.int .i64 0)).setCell ⟨g, 1, none⟩ (.int .i64 0)).setCell ⟨g, 2, none⟩ (.int .i64 0)) g 68 #[.int .i64 0, .int .i64 0, .int .i64 0] from ((HF.out.set 0 (.int .i64 0)).set 1 (.int .i64 0)).set 2 (.int .i64 0))
   have HBF := Lib.hid (show Below g w ((((wr).setCell ⟨g, 0, none⟩ (.int .i64 0)).setCell ⟨g, 1, none⟩ (.int .i64 0)).setCell ⟨g, 2, none⟩ (.int .i64 0)) from ((HB.out.setCell (show g ≤ (⟨g, 0, none⟩ : Addr).block from Nat.le_refl g) _).setCell (show g ≤ (⟨g, 1, none⟩ : Addr).block from Nat.le_refl g) _).setCell (show g ≤ (⟨g, 2, none⟩ : Addr).block from Nat.le_refl g) _)
   obtain ⟨U, hU⟩ : ∃ U, (((wr).setCell ⟨g, 0, none⟩ (.int .i64 0)).setCell ⟨g, 1, none⟩ (.int .i64 0)).setCell ⟨g, 2, none⟩ (.int .i64 0) = U := ⟨_, rfl⟩
   rw [hU] at HFF HBF ⊢
   have hf := HFF.out.cell
   exact bodyPost_ret (v := .tuple #[.agg #[.int .i64 0, .int .i64 0, .int .i64 0], .int .i64 3]) (by simp [results, Tryz.results59, go_sem, hf]) rfl ⟨_, _, _, _, rfl, HR.out, HBF.out.mono HG.out⟩
  have hk4 : (K : Int) ≤ 4 := by omega
  go_wp2_with fail
  go_loopw [14] (fun ww wr => ∃ W : Nat, W ≤ 7 ∧ ww = .int .i64 W ∧ Blk wr g 68 #[.int .i64 0, .int .i64 0, .int .i64 0] ∧ Below g w wr ∧ Hid (Nx s K W 0)) (fun ww _ => 7 - (intOf ww).toNat)
  case atStart => exact ⟨0, by omega, rfl, HF.out, HB.out, HN⟩
  case round =>
   clear HF HB HN
   obtain ⟨W, hW7, rfl, hF, hB, HN⟩ := hrel
   have HF := Lib.hid hF
   have HB := Lib.hid hB
   clear hF hB
   by_cases hw7 : W = 7
   ·subst hw7
    go_wp2_with fail
    exact ⟨⟨K + 1, by omega, by omega, by go_num, HF.out, HB.out, Lib.hid (by have := nx_kind HN.out; simpa using this)⟩, by simp [intOf]; omega⟩
   have hw6 : (W : Int) < 7 := by omega
   go_wp2_with fail
   go_loopw [17] (fun nn wr => ∃ N : Nat, N ≤ 32 ∧ nn = .int .i64 N ∧ Blk wr g 68 #[.int .i64 0, .int .i64 0, .int .i64 0] ∧ Below g w wr ∧ Hid (Nx s K W N)) (fun nn _ => 32 - (intOf nn).toNat)
   case atStart => exact ⟨0, by omega, rfl, HF.out, HB.out, HN⟩
   case round =>
    clear HF HB HN
    obtain ⟨N, hN32, rfl, hF, hB, HN⟩ := hrel
    have HF := Lib.hid hF
    have HB := Lib.hid hB
    clear hF hB
    by_cases hn32 : N = 32
    ·subst hn32
     go_wp2_with fail
     exact ⟨⟨W + 1, by omega, by go_num, HF.out, HB.out, Lib.hid (by have := nx_word HN.out; simpa using this)⟩, by simp [intOf]; omega⟩
    have hn31 : (N : Int) < 32 := by omega
    have HD := Lib.hid (Blk.new wr #[.int .i64 K, .int .i64 W, .int .i64 N] 68)
    have HZ := Lib.hid HF.out.lt
    replace HB := Lib.hid (HB.out.alloc (Nat.le_of_lt HF.out.lt) (.cells #[.int .i64 K, .int .i64 W, .int .i64 N] 68))
    replace HF := Lib.hid (HF.out.alloc (.cells #[.int .i64 K, .int .i64 W, .int .i64 N] 68))
    go_wp2_with fail
    refine (r_DayText K W N _).mono ?_
    rintro e w2 ⟨rfl, hb⟩
    replace HB := Lib.hid (HB.out.trans (hb.mono (Nat.le_of_lt HF.out.lt)))
    replace HD := Lib.hid (HD.out.step hb)
    replace HF := Lib.hid (HF.out.step hb)
    clear hb
    by_cases hok : dcOk K W N = true
    ·have hE := dcE_ok hok
     by_cases heq : dtV K W N = s
     ·have hd : ((dtV K W N).toList == s.toList) = true := by rw [heq]; exact beq_self_eq_true _
      have HR : Hid (RdDy s K W N 0) := Lib.hid (Or.inl ⟨hok, heq, rfl⟩)
      rw [hE]
      clear hok heq hE
      have f0 := HD.out.cell 0
      have f1 := HD.out.cell 1
      have f2 := HD.out.cell 2
      have fl := HD.out.lt
      have hz := HZ.out
      simp at f0 f1 f2
      have q0 := HF.out.cell 0
      have q1 := HF.out.cell 1
      have q2 := HF.out.cell 2
      have y0 := HF.out.frz 0
      have y1 := HF.out.frz 1
      have y2 := HF.out.frz 2
      have yl := HF.out.lt
      simp at q0 q1 q2
      go_wp2_with fail
      have HFF := Lib.hid (show Blk ((((w2).setCell ⟨g, 0, none⟩ (.int .i64 K)).setCell ⟨g, 1, none⟩ (.int .i64 W)).setCell ⟨g, 2, none⟩ (.int .i64 N)) g 68 #[.int .i64 K, .int .i64 W, .int .i64 N] from ((HF.out.set 0 (.int .i64 K)).set 1 (.int .i64 W)).set 2 (.int .i64 N))
      have HBF := Lib.hid (show Below g w ((((w2).setCell ⟨g, 0, none⟩ (.int .i64 K)).setCell ⟨g, 1, none⟩ (.int .i64 W)).setCell ⟨g, 2, none⟩ (.int .i64 N)) from ((HB.out.setCell (show g ≤ (⟨g, 0, none⟩ : Addr).block from Nat.le_refl g) _).setCell (show g ≤ (⟨g, 1, none⟩ : Addr).block from Nat.le_refl g) _).setCell (show g ≤ (⟨g, 2, none⟩ : Addr).block from Nat.le_refl g) _)
      obtain ⟨U, hU⟩ : ∃ U, (((w2).setCell ⟨g, 0, none⟩ (.int .i64 K)).setCell ⟨g, 1, none⟩ (.int .i64 W)).setCell ⟨g, 2, none⟩ (.int .i64 N) = U := ⟨_, rfl⟩
      rw [hU] at HFF HBF ⊢
      have hf := HFF.out.cell
      exact bodyPost_ret (v := .tuple #[.agg #[.int .i64 K, .int .i64 W, .int .i64 N], .int .i64 0]) (by simp [results, Tryz.results59, go_sem, hf]) rfl ⟨_, _, _, _, rfl, HR.out, HBF.out.mono HG.out⟩
     ·have hd : ((dtV K W N).toList == s.toList) = false := str_ne heq
      have HX := Lib.hid (nx_next HN.out (fun _ => heq))
      rw [hE]
      clear hok heq hE
      go_wp2_with fail
      exact ⟨⟨N + 1, by omega, by go_num, HF.out, HB.out, Lib.hid (by have := HX.out; simpa using this)⟩, by simp [intOf]; omega⟩
    ·have hE := dcE_no (Bool.eq_false_iff.2 hok)
     have HX := Lib.hid (nx_next HN.out (fun h => absurd h hok))
     rw [hE]
     clear hok hE
     go_wp2_with fail
     exact ⟨⟨N + 1, by omega, by go_num, HF.out, HB.out, Lib.hid (by have := HX.out; simpa using this)⟩, by simp [intOf]; omega⟩
end Go.Proofs.YthppifcggmdmoaaGreatDoor

namespace Go.Proofs.YthppifcggmdmoaaGreatDoor
open Go.RowKit
set_option linter.unusedVariables false
set_option maxRecDepth 100000 in
set_option maxHeartbeats 4000000 in
theorem r_RuleCheck (name letter : ByteArray) (f t m k wd n a b sv : Int) (hn : name.size ≤ maxLen) (hl : letter.size ≤ maxLen) (w : World) :
  Calls Tryz.prog 61 #[.agg #[.string name, .int .i64 f, .int .i64 t, .int .i64 m, .int .i64 k, .int .i64 wd, .int .i64 n, .int .i64 a, .int .i64 b, .int .i64 sv, .string letter]] w
   fun e w' => e = .returned (.int .i64 (ruleE name letter f t m k wd n a b sv)) ∧ Below w.heap.size w w' := by
 cases hN : isNameB name.data.toList with
 | false =>
  have HS := Lib.hid (show ruleS name letter = false by rw [ruleS, hN]; rfl)
  go_enter Tryz.func61, Tryz.ntmps61
  go_wp2_with (first | (go_at_call 27; refine (r_IsName _ hn _).mono ?_; rintro e w1 ⟨rfl, hb⟩; first | (obtain ⟨hcs, hz, hb'⟩ := boxc hb; clear hb) | (have K := keepc hcs hz hb' hb; clear hcs hz hb' hb; obtain ⟨hcs, hz, hb'⟩ := K)) | (go_at_call 114; refine (r_IsAbbr _ hl _).mono ?_; rintro e w1 ⟨rfl, hb⟩; first | (obtain ⟨hcs, hz, hb'⟩ := boxc hb; clear hb) | (have K := keepc hcs hz hb' hb; clear hcs hz hb' hb; obtain ⟨hcs, hz, hb'⟩ := K)) | (go_at_call 24; refine (r_outside _ _ _ _).mono ?_; rintro e w' ⟨rfl, rfl⟩) | (go_at_call 115; refine (r_DayCheck _ _ _ _).mono ?_; rintro e w1 ⟨rfl, hb⟩; first | (obtain ⟨hcs, hz, hb'⟩ := boxc hb; clear hb) | (have K := keepc hcs hz hb' hb; clear hcs hz hb' hb; obtain ⟨hcs, hz, hb'⟩ := K)) | (go_at_call 73; refine (r_Length _ _ _).mono ?_; rintro e w1 ⟨rfl, hb⟩; first | (obtain ⟨hcs, hz, hb'⟩ := boxc hb; clear hb) | (have K := keepc hcs hz hb' hb; clear hcs hz hb' hb; obtain ⟨hcs, hz, hb'⟩ := K)))
  go_ret
  exact ⟨ret_int (ruleE_3 HS.out).symm, hb'⟩
 | true =>
  cases hS : ruleS name letter with
  | false =>
   have hD : (letter.toList == [45]) = false := by rw [ruleS, hN, Bool.true_and] at hS; exact (Bool.or_eq_false_iff.1 hS).1
   have hA : isAbbrB letter.data.toList = false := by rw [ruleS, hN, Bool.true_and] at hS; exact (Bool.or_eq_false_iff.1 hS).2
   have HS := Lib.hid hS
   clear hS
   go_enter Tryz.func61, Tryz.ntmps61
   go_wp2_with (first | (go_at_call 27; refine (r_IsName _ hn _).mono ?_; rintro e w1 ⟨rfl, hb⟩; first | (obtain ⟨hcs, hz, hb'⟩ := boxc hb; clear hb) | (have K := keepc hcs hz hb' hb; clear hcs hz hb' hb; obtain ⟨hcs, hz, hb'⟩ := K)) | (go_at_call 114; refine (r_IsAbbr _ hl _).mono ?_; rintro e w1 ⟨rfl, hb⟩; first | (obtain ⟨hcs, hz, hb'⟩ := boxc hb; clear hb) | (have K := keepc hcs hz hb' hb; clear hcs hz hb' hb; obtain ⟨hcs, hz, hb'⟩ := K)) | (go_at_call 24; refine (r_outside _ _ _ _).mono ?_; rintro e w' ⟨rfl, rfl⟩) | (go_at_call 115; refine (r_DayCheck _ _ _ _).mono ?_; rintro e w1 ⟨rfl, hb⟩; first | (obtain ⟨hcs, hz, hb'⟩ := boxc hb; clear hb) | (have K := keepc hcs hz hb' hb; clear hcs hz hb' hb; obtain ⟨hcs, hz, hb'⟩ := K)) | (go_at_call 73; refine (r_Length _ _ _).mono ?_; rintro e w1 ⟨rfl, hb⟩; first | (obtain ⟨hcs, hz, hb'⟩ := boxc hb; clear hb) | (have K := keepc hcs hz hb' hb; clear hcs hz hb' hb; obtain ⟨hcs, hz, hb'⟩ := K)))
   go_ret
   exact ⟨ret_int (ruleE_3 HS.out).symm, hb'⟩
  | true =>
   have HS := Lib.hid hS
   have hc : (letter.toList == [45]) = true ∨ ((letter.toList == [45]) = false ∧ isAbbrB letter.data.toList = true) := by
    rw [ruleS, hN, Bool.true_and, Bool.or_eq_true] at hS
    cases e : (letter.toList == [45]) with
    | true => exact Or.inl rfl
    | false => rw [e] at hS; exact Or.inr ⟨rfl, hS.resolve_left (by decide)⟩
   have HL := lenV_1901 m
   clear hS
   rcases hc with hD | ⟨hD, hA⟩
   all_goals
    go_enter Tryz.func61, Tryz.ntmps61
    go_wp2_with (first | (go_at_call 27; refine (r_IsName _ hn _).mono ?_; rintro e w1 ⟨rfl, hb⟩; first | (obtain ⟨hcs, hz, hb'⟩ := boxc hb; clear hb) | (have K := keepc hcs hz hb' hb; clear hcs hz hb' hb; obtain ⟨hcs, hz, hb'⟩ := K)) | (go_at_call 114; refine (r_IsAbbr _ hl _).mono ?_; rintro e w1 ⟨rfl, hb⟩; first | (obtain ⟨hcs, hz, hb'⟩ := boxc hb; clear hb) | (have K := keepc hcs hz hb' hb; clear hcs hz hb' hb; obtain ⟨hcs, hz, hb'⟩ := K)) | (go_at_call 24; refine (r_outside _ _ _ _).mono ?_; rintro e w' ⟨rfl, rfl⟩) | (go_at_call 115; refine (r_DayCheck _ _ _ _).mono ?_; rintro e w1 ⟨rfl, hb⟩; first | (obtain ⟨hcs, hz, hb'⟩ := boxc hb; clear hb) | (have K := keepc hcs hz hb' hb; clear hcs hz hb' hb; obtain ⟨hcs, hz, hb'⟩ := K)) | (go_at_call 73; refine (r_Length _ _ _).mono ?_; rintro e w1 ⟨rfl, hb⟩; first | (obtain ⟨hcs, hz, hb'⟩ := boxc hb; clear hb) | (have K := keepc hcs hz hb' hb; clear hcs hz hb' hb; obtain ⟨hcs, hz, hb'⟩ := K)))
   all_goals
    go_ret
    refine ⟨ret_int ?_, hb'⟩
    try simp only [Bool.not_eq_true', Bool.not_eq_false', decide_eq_true_eq, decide_eq_false_iff_not] at *
    first
     | (refine (ruleE_1 HS.out (ruleN_no ?_)).symm; rintro ⟨q1, q2, q3⟩; omega)
     | (have q := dc_no (bne_iff_ne.1 (by assumption)); refine q.2.trans (ruleE_1 HS.out (ruleN_no ?_)).symm; rintro ⟨q1, q2, q3⟩; rw [q.1] at q2; exact absurd q2 (by decide))
     | (refine (ruleE_0 HS.out (ruleN_iff.2 ⟨by omega, dc_ok (bne_eq_false_iff_eq.1 (by assumption)), by omega⟩)).symm)
end Go.Proofs.YthppifcggmdmoaaGreatDoor

