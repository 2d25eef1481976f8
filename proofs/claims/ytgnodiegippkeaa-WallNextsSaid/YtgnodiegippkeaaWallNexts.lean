/- The law WallNexts holds at every input: Next returns what the reference returns. No condition. -/
import Derived.Test.YtgnodiegippkeaaLawKit
import Derived.Test.YtgnodiegippkeaaOpenSl
import Derived.Test.YtgnodiegippkeaaWnA
import Derived.Test.YtgnodiegippkeaaWnR
namespace Go.Proofs.Ytgnodiegippkeaa.wallNexts
open Go.ChangeShapes Go.WideShapes Go.ChangeAt Go.RowKit
set_option linter.unusedVariables false
attribute [local go_sem ↓] Go.wp_at_zero Go.wp_at_succ
set_option maxRecDepth 100000 in
set_option maxHeartbeats 4000000 in
theorem walk_bad (A C : Option Addr) (capT capC : Nat) (ts : List Ty) (first : Int) (cs : List Ch) (after second : Int) (w : World) (H : TabAt w A C capT capC ts cs) (h0 : ¬ nextE ts first cs after second = 0) :
    Calls Try.prog 6 #[.agg #[.slice A ts.length capT, .int .i64 first, .slice C cs.length capC], .int .i64 after, .int .i64 second] w fun e w' => e = .returned (.bool true) ∧ Below w.heap.size w w' := by
  have hb0 : Below w.heap.size w (w.alloc (.cells #[.slice A ts.length capT, .int .i64 first, .slice C cs.length capC] 25)) := (by repeat (first | exact Below.refl _ _ | assumption | apply Below.drew | apply below_drewN | (refine Below.alloc ?_ (by simp; try omega) _) | (refine Below.setCell ?_ (by simp; try omega) _)))
  have X1 := Lib.hid (Bx.new w #[.slice A ts.length capT, .int .i64 first, .slice C cs.length capC] 25)
  have HC := Lib.hid (w_Next_bad A C capT capC ts first cs after second _ (H.below hb0) h0)
  by_cases h1 : timedE ts first cs after = 0
  · have h2 : ¬ (0 ≤ second ∧ second < 86400) := fun hc => h0 (by rw [nextE, if_pos h1, if_pos hc])
    have HE := Lib.hid (show nextE ts first cs after second = 1 by rw [nextE, if_pos h1, if_neg h2])
    rw [HE.out] at HC
    have H1 := Lib.hid h1
    have h3 : second < 0 ∨ (0 ≤ second ∧ 86399 < second) := by omega
    clear h0 h1 h2
    rcases h3 with h3 | ⟨h3, h4⟩
    all_goals
      go_enter Try.func6, Try.ntmps6
      go_wp2_with fail
      refine HC.out.mono ?_
      rintro e w1 ⟨rfl, hb⟩
      have x1 := X1.out.step hb
      have hb1 := hb0.trans (hb.mono hb0.size)
      have hcs := x1.1
      clear hb X1 hb0 HC
      go_wp2_with fail
      refine (l_timed A C capT capC ts first cs after _ (H.below hb1)).mono ?_
      rintro e w2 ⟨rfl, hb⟩
      have hb2 := hb1.trans (hb.mono hb1.size)
      rw [H1.out]
      clear hb x1 hb1 hcs
      go_wp2_with fail
      refine (w_Local_zero _).mono ?_
      rintro e w3 ⟨rfl, hb⟩
      have hb3 := hb2.trans (hb.mono hb2.size)
      clear hb hb2
      go_wp2_with fail
      go_ret
      exact ⟨rfl, hb3⟩
  · have HE := Lib.hid (show nextE ts first cs after second = timedE ts first cs after by rw [nextE, if_neg h1])
    rw [HE.out] at HC
    obtain ⟨ee, hee⟩ : ∃ ee, timedE ts first cs after = ee := ⟨_, rfl⟩
    have hT : ∀ W, Below w.heap.size w W → Calls Try.prog 14 #[.agg #[.slice A ts.length capT, .int .i64 first, .slice C cs.length capC], .int .i64 after] W fun e w' => e = .returned (.int .i64 ee) ∧ Below W.heap.size W w' := fun W hb => by
      have := l_timed A C capT capC ts first cs after W (H.below hb); rw [hee] at this; exact this
    have HT := Lib.hid hT
    rw [hee] at HC h1
    have h2 : (ee != 0) = true := by rw [bne_iff_ne]; exact h1
    have h3 : (ee == 0) = false := by rw [beq_eq_false_iff_ne]; exact h1
    clear h0 h1 hee HE hT
    go_enter Try.func6, Try.ntmps6
    go_wp2_with fail
    refine HC.out.mono ?_
    rintro e w1 ⟨rfl, hb⟩
    have x1 := X1.out.step hb
    have hb1 := hb0.trans (hb.mono hb0.size)
    have hcs := x1.1
    clear hb X1 hb0 HC
    go_wp2_with fail
    refine (HT.out _ hb1).mono ?_
    rintro e w2 ⟨rfl, hb⟩
    have hb2 := hb1.trans (hb.mono hb1.size)
    clear hb x1 hb1 hcs
    go_wp2_with fail
    refine (w_Local_zero _).mono ?_
    rintro e w3 ⟨rfl, hb⟩
    have hb3 := hb2.trans (hb.mono hb2.size)
    clear hb hb2
    go_wp2_with fail
    go_ret
    exact ⟨ret_bool (by simp), hb3⟩
set_option maxRecDepth 100000 in
set_option maxHeartbeats 4000000 in
theorem walk_ok (A C : Option Addr) (capT capC : Nat) (ts : List Ty) (first : Int) (cs : List Ch) (after second : Int) (w : World) (H : TabAt w A C capT capC ts cs) (h0 : timedE ts first cs after = 0) (s1 : 0 ≤ second) (s2 : second < 86400) :
    Calls Try.prog 6 #[.agg #[.slice A ts.length capT, .int .i64 first, .slice C cs.length capC], .int .i64 after, .int .i64 second] w fun e w' => e = .returned (.bool true) ∧ Below w.heap.size w w' := by
  have hb0 : Below w.heap.size w (w.alloc (.cells #[.slice A ts.length capT, .int .i64 first, .slice C cs.length capC] 25)) := (by repeat (first | exact Below.refl _ _ | assumption | apply Below.drew | apply below_drewN | (refine Below.alloc ?_ (by simp; try omega) _) | (refine Below.setCell ?_ (by simp; try omega) _)))
  have X1 := Lib.hid (Bx.new w #[.slice A ts.length capT, .int .i64 first, .slice C cs.length capC] 25)
  obtain ⟨h1, t1, t2⟩ := timed_parts h0
  have HK := Lib.hid (tabOk h1)
  have H0 := Lib.hid h0
  have HC := Lib.hid (w_Next_ok A C capT capC ts first cs after second _ (H.below hb0) h0 s1 s2)
  clear h0 h1
  go_enter Try.func6, Try.ntmps6
  go_wp2_with fail
  refine HC.out.mono ?_
  rintro e w1 ⟨r, rfl, hr, hb⟩
  have x1 := X1.out.step hb
  have hb1 := hb0.trans (hb.mono hb0.size)
  have hcs := x1.1
  have HR := Lib.hid hr
  clear hb X1 hb0 HC hr
  go_wp2_with fail
  refine (l_timed A C capT capC ts first cs after _ (H.below hb1)).mono ?_
  rintro e w2 ⟨rfl, hb⟩
  have x2 := x1.step hb
  have hb2 := hb1.trans (hb.mono hb1.size)
  rw [H0.out]
  clear hb x1 hb1 hcs
  go_wp2_with fail
  refine (w_Local_zero _).mono ?_
  rintro e w3 ⟨rfl, hb⟩
  have x3 := x2.step hb
  have hb3 := hb2.trans (hb.mono hb2.size)
  have hcs := x3.1
  clear hb hb2 x2
  go_wp2_with fail
  refine (r_Next A C capT capC ts first cs after second r _ (H.below hb3) HK.out t1 t2 s1 s2 HR.out).mono ?_
  rintro e w4 ⟨rfl, hb⟩
  have hb4 := hb3.trans (hb.mono hb3.size)
  clear hb
  go_wp2_with fail
  go_ret
  exact ⟨ret_bool (by simp), hb4⟩
theorem walk (A C : Option Addr) (capT capC : Nat) (ts : List Ty) (first : Int) (cs : List Ch) (after second : Int) (w : World) (H : TabAt w A C capT capC ts cs) :
    Calls Try.prog 6 #[.agg #[.slice A ts.length capT, .int .i64 first, .slice C cs.length capC], .int .i64 after, .int .i64 second] w fun e w' => e = .returned (.bool true) ∧ Below w.heap.size w w' := by
  by_cases h0 : nextE ts first cs after second = 0
  · by_cases h1 : timedE ts first cs after = 0
    · by_cases h2 : 0 ≤ second ∧ second < 86400
      · exact walk_ok A C capT capC ts first cs after second w H h1 h2.1 h2.2
      · rw [nextE, if_pos h1, if_neg h2] at h0; omega
    · rw [nextE, if_neg h1] at h0; exact absurd h0 h1
  · exact walk_bad A C capT capC ts first cs after second w H h0

set_option maxRecDepth 100000 in
theorem lifted (os : Os) (started : os.Started) (H : Type) (enc : TypeId × Value → H) :
    ReturnsInHanded {} Try.checked os 6 .any (Rows.wallNextsSpec.pre6 enc Try.prog Try.f6 Rows.wallNextsRow.domain false) (Rows.wallNextsSpec.post enc Try.prog Try.f6 false true false false) := by
  refine returnsInHanded_of_change (C := Try.checked) own started (by kernel_rfl) Try.func6
    (ChangeSpec.witness6 (enc := enc) (C := Try.checked) false ⟨#[], #[.agg #[.slice none 0 0, .int .i64 0, .slice none 0 0], .int .i64 0, .int .i64 0], []⟩ 8 (by kernel_rfl) (by kernel_rfl) (by kernel_rfl) (by kernel_rfl)) ?_
  intro W base args ds gs before hval0 hW hcnd _
  have hval : ∀ (j : Nat) t v, Try.f6.params[j]? = some t → args[j]? = some v → Value.okWide Try.prog W .any base t v := hval0
  have hW' := hW
  have hltW : ∀ x ∈ before, x.block < W.heap.size := fun x hx => by simpa using hW.lt x hx
  obtain ⟨p, q, hA0, hV, rfl, hfz, hnd⟩ := hW
  have hlt : ∀ x ∈ p, x.block < W.heap.size := fun x hx => hltW x (by simp [hx])
  clear hltW
  have hA : DataW.TrodAll enc Try.prog W 0 (fun _ => true) true Try.f6.params.toList args.toList ds p := hA0
  rw [Try.params6] at hA hval
  obtain ⟨v0, vs0, d0, ds0, p0, q0, hargs, rfl, rfl, h0, r0⟩ := trodAll_cons hA
  obtain ⟨v1, vs1, d1, ds1, p1, q1, rfl, rfl, rfl, h1, r1⟩ := trodAll_cons r0
  obtain ⟨v2, vs2, d2, ds2, p2, q2, rfl, rfl, rfl, h2, r2⟩ := trodAll_cons r1
  obtain ⟨rfl, rfl, rfl⟩ := trodAll_nil r2
  obtain rfl : args = #[v0, v1, v2] := by cases args; simp_all
  obtain ⟨rfl, rfl⟩ := trodVars_none hV
  obtain ⟨A0, C0, cT0, cC0, ts0, fi0, cs0, rfl, HT0, wf0, wt0, wc0⟩ := val_table (hval 0 25 v0 rfl rfl) h0
  obtain ⟨a1, rfl, rfl, rfl, w1⟩ := open_int Try.underlying3 (hval 1 3 v1 rfl rfl) h1
  obtain ⟨a2, rfl, rfl, rfl, w2⟩ := open_int Try.underlying3 (hval 2 3 v2 rfl rfl) h2
  clear hA0 hval0
  refine (walk A0 C0 cT0 cC0 ts0 fi0 cs0 a1 a2 W HT0).mono fun e W' ⟨he, hg⟩ => ?_
  subst he
  exact ⟨_, rfl, law_post rfl hW' rfl rfl rfl rfl (by rw [Try.params6]; decide +kernel) hg⟩

/-- the statement -/
theorem proved : Rows.WallNextsSaid :=
  OpenClaim.holds_of_wide 6 Try.f6 rfl rfl rfl rfl rfl rfl rfl ⟨rfl, rfl, rfl, rfl, rfl⟩ rfl rfl rfl rfl rfl (by kernel_rfl) Try.func6 (by kernel_rfl)
    (of_decide_eq_true (by kernel_rfl)) (by unfold Func.isWrapper; first | (rw [if_pos (by decide +kernel)]; kernel_rfl) | (rw [if_neg (by decide +kernel)]; exact ⟨rfl, rfl⟩))
    (fun os started H enc _ => lifted os started H enc)
end Go.Proofs.Ytgnodiegippkeaa.wallNexts
