/- The law NormSames holds at every input: Same answers as the reference does. No condition. -/
import Derived.Test.YtgnodiegippkeaaLawKit
import Derived.Test.YtgnodiegippkeaaOpenSl
import Derived.Test.YtgnodiegippkeaaNmF
import Derived.Test.YtgnodiegippkeaaNsF
import Derived.Test.YtgnodiegippkeaaNsC
import Derived.Test.YtgnodiegippkeaaNsB
namespace Go.Proofs.Ytgnodiegippkeaa.normSames
open Go.ChangeShapes Go.WideShapes Go.ChangeAt Go.RowKit
set_option linter.unusedVariables false
attribute [local go_sem ↓] Go.wp_at_zero Go.wp_at_succ
theorem norm_zero (w : World) : Calls Try.prog 18 #[.agg #[.slice none 0 0, .int .i64 0, .slice none 0 0]] w (NBad 5 w) :=
  n_Norm_bad none none 0 0 [] 0 [] w (TabAt.zero w) (by decide)
theorem bothE_zero {ts1 ts2 : List Ty} {f1 f2 : Int} {cs1 cs2 : List Ch} (h : bothE ts1 f1 cs1 ts2 f2 cs2 = 0) : tabE ts1 f1 cs1 = 0 ∧ tabE ts2 f2 cs2 = 0 := by
  unfold bothE at h
  split at h
  · exact ⟨by assumption, h⟩
  · exact absurd h (by assumption)
set_option maxRecDepth 100000 in
set_option maxHeartbeats 4000000 in
theorem n_Same_bad (A C : Option Addr) (capT capC : Nat) (ts : List Ty) (first : Int) (cs : List Ch) (A2 C2 : Option Addr) (capT2 capC2 : Nat) (ts2 : List Ty) (first2 : Int) (cs2 : List Ch) (w : World) (H : TabAt w A C capT capC ts cs) (H2 : TabAt w A2 C2 capT2 capC2 ts2 cs2) (h0 : ¬ bothE ts first cs ts2 first2 cs2 = 0) :
    Calls Try.prog 17 #[.agg #[.slice A ts.length capT, .int .i64 first, .slice C cs.length capC], .agg #[.slice A2 ts2.length capT2, .int .i64 first2, .slice C2 cs2.length capC2]] w fun e w' => e = .returned (.tuple #[.bool false, .int .i64 (bothE ts first cs ts2 first2 cs2)]) ∧ Below w.heap.size w w' := by
  obtain ⟨q1, q2, q4, q5, hb0⟩ := boxes2 w #[.slice A ts.length capT, .int .i64 first, .slice C cs.length capC] #[.slice A2 ts2.length capT2, .int .i64 first2, .slice C2 cs2.length capC2] 25 25
  have X1 := Lib.hid (show Bx w.heap.size _ _ from ⟨q1, fun i => by rw [frozen_old _ _ _ (by rw [size_alloc]; exact Nat.lt_succ_self _), frozen_new _ _ _ _ _ rfl], by rw [q5]; omega⟩)
  have X2 := Lib.hid (show Bx (w.heap.size + 1) _ _ from ⟨q2, q4, by rw [q5]; omega⟩)
  have HC := Lib.hid (n_check A C A2 C2 capT capC capT2 capC2 ts first cs ts2 first2 cs2 _ (H.below hb0) (H2.below hb0))
  have h2 : (bothE ts first cs ts2 first2 cs2 != 0) = true := by rw [bne_iff_ne]; exact h0
  have h3 : (bothE ts first cs ts2 first2 cs2 == 0) = false := by rw [beq_eq_false_iff_ne]; exact h0
  clear q4 q5 h0
  go_enter Try.func17, Try.ntmps17
  go_wp2_with fail
  refine HC.out.mono ?_
  rintro e w1 ⟨rfl, hb⟩
  have hb1 := hb0.trans (hb.mono hb0.size)
  clear hb HC X1 X2 q1 q2
  go_wp2_with fail
  go_ret2
  exact ⟨rfl, hb1⟩
set_option maxRecDepth 100000 in
set_option maxHeartbeats 4000000 in
theorem walk_bad (A C : Option Addr) (capT capC : Nat) (ts : List Ty) (first : Int) (cs : List Ch) (A2 C2 : Option Addr) (capT2 capC2 : Nat) (ts2 : List Ty) (first2 : Int) (cs2 : List Ch) (w : World) (H : TabAt w A C capT capC ts cs) (H2 : TabAt w A2 C2 capT2 capC2 ts2 cs2) (h0 : ¬ bothE ts first cs ts2 first2 cs2 = 0) :
    Calls Try.prog 4 #[.agg #[.slice A ts.length capT, .int .i64 first, .slice C cs.length capC], .agg #[.slice A2 ts2.length capT2, .int .i64 first2, .slice C2 cs2.length capC2]] w fun e w' => e = .returned (.bool true) ∧ Below w.heap.size w w' := by
  obtain ⟨q1, q2, q4, q5, hb0⟩ := boxes2 w #[.slice A ts.length capT, .int .i64 first, .slice C cs.length capC] #[.slice A2 ts2.length capT2, .int .i64 first2, .slice C2 cs2.length capC2] 25 25
  have X1 := Lib.hid (show Bx w.heap.size _ _ from ⟨q1, fun i => by rw [frozen_old _ _ _ (by rw [size_alloc]; exact Nat.lt_succ_self _), frozen_new _ _ _ _ _ rfl], by rw [q5]; omega⟩)
  have X2 := Lib.hid (show Bx (w.heap.size + 1) _ _ from ⟨q2, q4, by rw [q5]; omega⟩)
  have h2 : (bothE ts first cs ts2 first2 cs2 != 0) = true := by rw [bne_iff_ne]; exact h0
  have h3 : (bothE ts first cs ts2 first2 cs2 == 0) = false := by rw [beq_eq_false_iff_ne]; exact h0
  have HC := Lib.hid (n_Same_bad A C capT capC ts first cs A2 C2 capT2 capC2 ts2 first2 cs2 _ (H.below hb0) (H2.below hb0) h0)
  clear q4 q5 h0
  go_enter Try.func4, Try.ntmps4
  go_wp2_with fail
  refine HC.out.mono ?_
  rintro e w1 ⟨rfl, hb⟩
  clear HC q1 q2
  have x1 := X1.out.step hb
  have x2 := X2.out.step hb
  have hb1 := hb0.trans (hb.mono hb0.size)
  clear hb X1 X2 hb0
  have hcs := x1.1
  have hcs2 := x2.1
  have X1 := Lib.hid x1
  have X2 := Lib.hid x2
  have B1 := Lib.hid hb1
  clear x1 x2 hb1
  go_wp2_with fail
  refine (norm_zero _).mono ?_
  rintro e w2 ⟨rfl, hb⟩
  have x1 := (X1.out.step hb).alloc (.cells #[.slice none 0 0, .int .i64 0, .slice none 0 0] 25)
  have x2 := (X2.out.step hb).alloc (.cells #[.slice none 0 0, .int .i64 0, .slice none 0 0] 25)
  have hb1 := B1.out.trans (hb.mono B1.out.size)
  have hb2 := hb1.alloc hb1.size (.cells #[.slice none 0 0, .int .i64 0, .slice none 0 0] 25)
  have Y1 := Lib.hid x1
  have Y2 := Lib.hid x2
  have hcs3 := (X1.out.step hb).1
  have hcs4 := (X2.out.step hb).1
  have hl1 := (X1.out.step hb).2.2
  have hl2 := (X2.out.step hb).2.2
  have B2 := Lib.hid hb2
  clear hb hb1 hb2 x1 x2 hcs hcs2 X1 X2 B1
  go_wp2_with fail
  refine (l_both A C A2 C2 capT capC capT2 capC2 ts first cs ts2 first2 cs2 _ (H.below B2.out) (H2.below B2.out)).mono ?_
  rintro e w3 ⟨rfl, hb⟩
  have x1 := Y1.out.step hb
  have x2 := Y2.out.step hb
  have hb3 := B2.out.trans (hb.mono B2.out.size)
  clear hb Y1 Y2 B2 hcs3 hcs4 hl1 hl2
  clear x1 x2
  go_wp2_with fail
  go_ret
  exact ⟨ret_bool (by simp), hb3⟩
set_option maxRecDepth 100000 in
set_option maxHeartbeats 4000000 in
theorem walk_ok (A C : Option Addr) (capT capC : Nat) (ts : List Ty) (first : Int) (cs : List Ch) (A2 C2 : Option Addr) (capT2 capC2 : Nat) (ts2 : List Ty) (first2 : Int) (cs2 : List Ch) (w : World) (H : TabAt w A C capT capC ts cs) (H2 : TabAt w A2 C2 capT2 capC2 ts2 cs2) (h0 : bothE ts first cs ts2 first2 cs2 = 0) :
    Calls Try.prog 4 #[.agg #[.slice A ts.length capT, .int .i64 first, .slice C cs.length capC], .agg #[.slice A2 ts2.length capT2, .int .i64 first2, .slice C2 cs2.length capC2]] w fun e w' => e = .returned (.bool true) ∧ Below w.heap.size w w' := by
  obtain ⟨q1, q2, q4, q5, hb0⟩ := boxes2 w #[.slice A ts.length capT, .int .i64 first, .slice C cs.length capC] #[.slice A2 ts2.length capT2, .int .i64 first2, .slice C2 cs2.length capC2] 25 25
  have X1 := Lib.hid (show Bx w.heap.size _ _ from ⟨q1, fun i => by rw [frozen_old _ _ _ (by rw [size_alloc]; exact Nat.lt_succ_self _), frozen_new _ _ _ _ _ rfl], by rw [q5]; omega⟩)
  have X2 := Lib.hid (show Bx (w.heap.size + 1) _ _ from ⟨q2, q4, by rw [q5]; omega⟩)
  have K1 := tabOk (bothE_zero h0).1
  have K2 := tabOk (bothE_zero h0).2
  have HC := Lib.hid (n_Same_ok A C A2 C2 capT capC capT2 capC2 ts first cs ts2 first2 cs2 _ (H.below hb0) (H2.below hb0) h0 K1 K2)
  have HQ := Lib.hid (sameR_eq K1 K2)
  have H0 := Lib.hid h0
  have HK1 := Lib.hid K1
  have HK2 := Lib.hid K2
  rw [HQ.out] at HC
  clear q4 q5 h0 K1 K2
  obtain ⟨b, hb⟩ : ∃ b, sameR ts first cs ts2 first2 cs2 = b := ⟨_, rfl⟩
  rw [hb] at HC
  have HBV := Lib.hid hb
  clear hb
  go_enter Try.func4, Try.ntmps4
  go_wp2_with fail
  refine HC.out.mono ?_
  rintro e w1 ⟨rfl, hb⟩
  clear HC q1 q2
  have x1 := X1.out.step hb
  have x2 := X2.out.step hb
  have hb1 := hb0.trans (hb.mono hb0.size)
  clear hb X1 X2 hb0
  have hcs := x1.1
  have hcs2 := x2.1
  have X1 := Lib.hid x1
  have X2 := Lib.hid x2
  have B1 := Lib.hid hb1
  clear x1 x2 hb1
  go_wp2_with fail
  refine (norm_zero _).mono ?_
  rintro e w2 ⟨rfl, hb⟩
  have x1 := (X1.out.step hb).alloc (.cells #[.slice none 0 0, .int .i64 0, .slice none 0 0] 25)
  have x2 := (X2.out.step hb).alloc (.cells #[.slice none 0 0, .int .i64 0, .slice none 0 0] 25)
  have hb1 := B1.out.trans (hb.mono B1.out.size)
  have hb2 := hb1.alloc hb1.size (.cells #[.slice none 0 0, .int .i64 0, .slice none 0 0] 25)
  have Y1 := Lib.hid x1
  have Y2 := Lib.hid x2
  have hcs3 := (X1.out.step hb).1
  have hcs4 := (X2.out.step hb).1
  have hl1 := (X1.out.step hb).2.2
  have hl2 := (X2.out.step hb).2.2
  have B2 := Lib.hid hb2
  clear hb hb1 hb2 x1 x2 hcs hcs2 X1 X2 B1
  go_wp2_with fail
  refine (l_both A C A2 C2 capT capC capT2 capC2 ts first cs ts2 first2 cs2 _ (H.below B2.out) (H2.below B2.out)).mono ?_
  rintro e w3 ⟨rfl, hb⟩
  have x1 := Y1.out.step hb
  have x2 := Y2.out.step hb
  have hb3 := B2.out.trans (hb.mono B2.out.size)
  clear hb Y1 Y2 B2 hcs3 hcs4 hl1 hl2
  rw [H0.out]
  have hcs := x1.1
  have hcs2 := x2.1
  clear x1 x2
  go_wp2_with fail
  refine (r_Same A C A2 C2 capT capC capT2 capC2 ts first cs ts2 first2 cs2 _ (H.below hb3) (H2.below hb3) HK1.out HK2.out).mono ?_
  rintro e w4 ⟨rfl, hb⟩
  rw [HBV.out]
  go_wp2_with fail
  go_ret
  exact ⟨ret_bool (by simp), hb3.trans (hb.mono hb3.size)⟩
theorem walk (A C : Option Addr) (capT capC : Nat) (ts : List Ty) (first : Int) (cs : List Ch) (A2 C2 : Option Addr) (capT2 capC2 : Nat) (ts2 : List Ty) (first2 : Int) (cs2 : List Ch) (w : World) (H : TabAt w A C capT capC ts cs) (H2 : TabAt w A2 C2 capT2 capC2 ts2 cs2) :
    Calls Try.prog 4 #[.agg #[.slice A ts.length capT, .int .i64 first, .slice C cs.length capC], .agg #[.slice A2 ts2.length capT2, .int .i64 first2, .slice C2 cs2.length capC2]] w fun e w' => e = .returned (.bool true) ∧ Below w.heap.size w w' := by
  by_cases h0 : bothE ts first cs ts2 first2 cs2 = 0
  · exact walk_ok A C capT capC ts first cs A2 C2 capT2 capC2 ts2 first2 cs2 w H H2 h0
  · exact walk_bad A C capT capC ts first cs A2 C2 capT2 capC2 ts2 first2 cs2 w H H2 h0

set_option maxRecDepth 100000 in
theorem lifted (os : Os) (started : os.Started) (H : Type) (enc : TypeId × Value → H) :
    ReturnsInHanded {} Try.checked os 4 .any (Rows.normSamesSpec.pre6 enc Try.prog Try.f4 Rows.normSamesRow.domain false) (Rows.normSamesSpec.post enc Try.prog Try.f4 false true false false) := by
  refine returnsInHanded_of_change (C := Try.checked) own started (by kernel_rfl) Try.func4
    (ChangeSpec.witness6 (enc := enc) (C := Try.checked) false ⟨#[], #[.agg #[.slice none 0 0, .int .i64 0, .slice none 0 0], .agg #[.slice none 0 0, .int .i64 0, .slice none 0 0]], []⟩ 8 (by kernel_rfl) (by kernel_rfl) (by kernel_rfl) (by kernel_rfl)) ?_
  intro W base args ds gs before hval0 hW hcnd _
  have hval : ∀ (j : Nat) t v, Try.f4.params[j]? = some t → args[j]? = some v → Value.okWide Try.prog W .any base t v := hval0
  have hW' := hW
  have hltW : ∀ x ∈ before, x.block < W.heap.size := fun x hx => by simpa using hW.lt x hx
  obtain ⟨p, q, hA0, hV, rfl, hfz, hnd⟩ := hW
  have hlt : ∀ x ∈ p, x.block < W.heap.size := fun x hx => hltW x (by simp [hx])
  clear hltW
  have hA : DataW.TrodAll enc Try.prog W 0 (fun _ => true) true Try.f4.params.toList args.toList ds p := hA0
  rw [Try.params4] at hA hval
  obtain ⟨v0, vs0, d0, ds0, p0, q0, hargs, rfl, rfl, h0, r0⟩ := trodAll_cons hA
  obtain ⟨v1, vs1, d1, ds1, p1, q1, rfl, rfl, rfl, h1, r1⟩ := trodAll_cons r0
  obtain ⟨rfl, rfl, rfl⟩ := trodAll_nil r1
  obtain rfl : args = #[v0, v1] := by cases args; simp_all
  obtain ⟨rfl, rfl⟩ := trodVars_none hV
  obtain ⟨A0, C0, cT0, cC0, ts0, fi0, cs0, rfl, HT0, wf0, wt0, wc0⟩ := val_table (hval 0 25 v0 rfl rfl) h0
  obtain ⟨A1, C1, cT1, cC1, ts1, fi1, cs1, rfl, HT1, wf1, wt1, wc1⟩ := val_table (hval 1 25 v1 rfl rfl) h1
  clear hA0 hval0
  refine (walk A0 C0 cT0 cC0 ts0 fi0 cs0 A1 C1 cT1 cC1 ts1 fi1 cs1 W HT0 HT1).mono fun e W' ⟨he, hg⟩ => ?_
  subst he
  exact ⟨_, rfl, law_post rfl hW' rfl rfl rfl rfl (by rw [Try.params4]; decide +kernel) hg⟩

/-- the statement -/
theorem proved : Rows.NormSamesSaid :=
  OpenClaim.holds_of_wide 4 Try.f4 rfl rfl rfl rfl rfl rfl rfl ⟨rfl, rfl, rfl, rfl, rfl⟩ rfl rfl rfl rfl rfl (by kernel_rfl) Try.func4 (by kernel_rfl)
    (of_decide_eq_true (by kernel_rfl)) (by unfold Func.isWrapper; first | (rw [if_pos (by decide +kernel)]; kernel_rfl) | (rw [if_neg (by decide +kernel)]; exact ⟨rfl, rfl⟩))
    (fun os started H enc _ => lifted os started H enc)
end Go.Proofs.Ytgnodiegippkeaa.normSames
