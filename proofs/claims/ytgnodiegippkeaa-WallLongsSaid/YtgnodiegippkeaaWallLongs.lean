/- The law WallLongs holds at every input: Long returns what the reference returns. No condition. -/
import Derived.Test.YtgnodiegippkeaaLawKit
import Derived.Test.YtgnodiegippkeaaOpenSl
import Derived.Test.YtgnodiegippkeaaWlA
import Derived.Test.YtgnodiegippkeaaWlR
namespace Go.Proofs.Ytgnodiegippkeaa.wallLongs
open Go.ChangeShapes Go.WideShapes Go.ChangeAt Go.RowKit
set_option linter.unusedVariables false
attribute [local go_sem ↓] Go.wp_at_zero Go.wp_at_succ
set_option maxRecDepth 100000 in
set_option maxHeartbeats 4000000 in
theorem walk_bad (A C : Option Addr) (capT capC : Nat) (ts : List Ty) (first : Int) (cs : List Ch) (n : Int) (w : World) (H : TabAt w A C capT capC ts cs) (h0 : ¬ longE ts first cs n = 0) :
    Calls Try.prog 5 #[.agg #[.slice A ts.length capT, .int .i64 first, .slice C cs.length capC], .int .i64 n] w fun e w' => e = .returned (.bool true) ∧ Below w.heap.size w w' := by
  have hb0 : Below w.heap.size w (w.alloc (.cells #[.slice A ts.length capT, .int .i64 first, .slice C cs.length capC] 25)) := (by repeat (first | exact Below.refl _ _ | assumption | apply Below.drew | apply below_drewN | (refine Below.alloc ?_ (by simp; try omega) _) | (refine Below.setCell ?_ (by simp; try omega) _)))
  have X1 := Lib.hid (Bx.new w #[.slice A ts.length capT, .int .i64 first, .slice C cs.length capC] 25)
  have HC := Lib.hid (w_Long_bad A C capT capC ts first cs n _ (H.below hb0) h0)
  by_cases h1 : tabE ts first cs = 0
  · have h2 : ¬ (-10000000 ≤ n ∧ n ≤ 10000000) := fun hc => h0 (by rw [longE, if_pos h1, if_pos hc])
    have HE := Lib.hid (show longE ts first cs n = 1 by rw [longE, if_pos h1, if_neg h2])
    rw [HE.out] at HC
    have H1 := Lib.hid h1
    have h3 : n < -10000000 ∨ (-10000000 ≤ n ∧ 10000000 < n) := by omega
    clear h0 h1 h2
    rcases h3 with h3 | ⟨h3, h4⟩
    all_goals
      go_enter Try.func5, Try.ntmps5
      go_wp2_with fail
      refine HC.out.mono ?_
      rintro e w1 ⟨rfl, hb⟩
      have x1 := X1.out.step hb
      have hb1 := hb0.trans (hb.mono hb0.size)
      have hcs := x1.1
      clear hb X1 hb0 HC
      go_wp2_with fail
      refine (r_TableCheck A C capT capC ts first cs _ (H.below hb1)).mono ?_
      rintro e w2 ⟨rfl, hb⟩
      have hb2 := hb1.trans (hb.mono hb1.size)
      rw [H1.out]
      clear hb x1 hb1 hcs
      go_wp2_with fail
      refine (w_Local_zero _).mono ?_
      rintro e w3 ⟨rfl, hb⟩
      have hb3 := hb2.trans (hb.mono hb2.size)
      clear hb hb2
      go_wp2_with fail
      go_ret
      exact ⟨rfl, hb3⟩
  · have HE := Lib.hid (show longE ts first cs n = tabE ts first cs by rw [longE, if_neg h1])
    rw [HE.out] at HC
    obtain ⟨ee, hee⟩ : ∃ ee, tabE ts first cs = ee := ⟨_, rfl⟩
    have hT : ∀ W, Below w.heap.size w W → Calls Try.prog 22 #[.agg #[.slice A ts.length capT, .int .i64 first, .slice C cs.length capC]] W fun e w' => e = .returned (.int .i64 ee) ∧ Below W.heap.size W w' := fun W hb => by
      have := r_TableCheck A C capT capC ts first cs W (H.below hb); rw [hee] at this; exact this
    have HT := Lib.hid hT
    rw [hee] at HC h1
    have h2 : (ee != 0) = true := by rw [bne_iff_ne]; exact h1
    have h3 : (ee == 0) = false := by rw [beq_eq_false_iff_ne]; exact h1
    clear h0 h1 hee HE hT
    go_enter Try.func5, Try.ntmps5
    go_wp2_with fail
    refine HC.out.mono ?_
    rintro e w1 ⟨rfl, hb⟩
    have x1 := X1.out.step hb
    have hb1 := hb0.trans (hb.mono hb0.size)
    have hcs := x1.1
    clear hb X1 hb0 HC
    go_wp2_with fail
    refine (HT.out _ hb1).mono ?_
    rintro e w2 ⟨rfl, hb⟩
    have hb2 := hb1.trans (hb.mono hb1.size)
    clear hb x1 hb1 hcs
    go_wp2_with fail
    refine (w_Local_zero _).mono ?_
    rintro e w3 ⟨rfl, hb⟩
    have hb3 := hb2.trans (hb.mono hb2.size)
    clear hb hb2
    go_wp2_with fail
    go_ret
    exact ⟨ret_bool (by simp), hb3⟩
set_option maxRecDepth 100000 in
set_option maxHeartbeats 4000000 in
theorem walk_ok (A C : Option Addr) (capT capC : Nat) (ts : List Ty) (first : Int) (cs : List Ch) (n : Int) (w : World) (H : TabAt w A C capT capC ts cs) (h0 : tabE ts first cs = 0) (n1 : -10000000 ≤ n) (n2 : n ≤ 10000000) :
    Calls Try.prog 5 #[.agg #[.slice A ts.length capT, .int .i64 first, .slice C cs.length capC], .int .i64 n] w fun e w' => e = .returned (.bool true) ∧ Below w.heap.size w w' := by
  have hb0 : Below w.heap.size w (w.alloc (.cells #[.slice A ts.length capT, .int .i64 first, .slice C cs.length capC] 25)) := (by repeat (first | exact Below.refl _ _ | assumption | apply Below.drew | apply below_drewN | (refine Below.alloc ?_ (by simp; try omega) _) | (refine Below.setCell ?_ (by simp; try omega) _)))
  have X1 := Lib.hid (Bx.new w #[.slice A ts.length capT, .int .i64 first, .slice C cs.length capC] 25)
  have HK := Lib.hid (tabOk h0)
  have H0 := Lib.hid h0
  obtain ⟨M, hM⟩ : ∃ M, lgL n (pcAll ts first cs) = M := ⟨_, rfl⟩
  have HC := Lib.hid (w_Long_ok A C capT capC ts first cs n _ (H.below hb0) h0 n1 n2)
  have hR : ∀ W, Below w.heap.size w W → Calls Try.prog 23 #[.agg #[.slice A ts.length capT, .int .i64 first, .slice C cs.length capC], .int .i64 n] W fun e w' => e = .returned (.int .i64 M) ∧ Below W.heap.size W w' := fun W hb => by
    have := r_LongDay A C capT capC ts first cs n W (H.below hb) HK.out n1 n2; rw [hM] at this; exact this
  have HR := Lib.hid hR
  rw [hM] at HC
  clear h0 hM hR
  go_enter Try.func5, Try.ntmps5
  go_wp2_with fail
  refine HC.out.mono ?_
  rintro e w1 ⟨rfl, hb⟩
  have x1 := X1.out.step hb
  have hb1 := hb0.trans (hb.mono hb0.size)
  have hcs := x1.1
  clear hb X1 hb0 HC
  go_wp2_with fail
  refine (r_TableCheck A C capT capC ts first cs _ (H.below hb1)).mono ?_
  rintro e w2 ⟨rfl, hb⟩
  have x2 := x1.step hb
  have hb2 := hb1.trans (hb.mono hb1.size)
  rw [H0.out]
  clear hb x1 hb1 hcs
  go_wp2_with fail
  refine (w_Local_zero _).mono ?_
  rintro e w3 ⟨rfl, hb⟩
  have x3 := x2.step hb
  have hb3 := hb2.trans (hb.mono hb2.size)
  have hcs := x3.1
  clear hb hb2 x2
  go_wp2_with fail
  refine (HR.out _ hb3).mono ?_
  rintro e w4 ⟨rfl, hb⟩
  have hb4 := hb3.trans (hb.mono hb3.size)
  clear hb
  go_wp2_with fail
  go_ret
  exact ⟨ret_bool (by simp), hb4⟩
theorem walk (A C : Option Addr) (capT capC : Nat) (ts : List Ty) (first : Int) (cs : List Ch) (n : Int) (w : World) (H : TabAt w A C capT capC ts cs) :
    Calls Try.prog 5 #[.agg #[.slice A ts.length capT, .int .i64 first, .slice C cs.length capC], .int .i64 n] w fun e w' => e = .returned (.bool true) ∧ Below w.heap.size w w' := by
  by_cases h0 : longE ts first cs n = 0
  · by_cases h1 : tabE ts first cs = 0
    · by_cases h2 : -10000000 ≤ n ∧ n ≤ 10000000
      · exact walk_ok A C capT capC ts first cs n w H h1 h2.1 h2.2
      · rw [longE, if_pos h1, if_neg h2] at h0; omega
    · rw [longE, if_neg h1] at h0; exact absurd h0 h1
  · exact walk_bad A C capT capC ts first cs n w H h0

set_option maxRecDepth 100000 in
theorem lifted (os : Os) (started : os.Started) (H : Type) (enc : TypeId × Value → H) :
    ReturnsInHanded {} Try.checked os 5 .any (Rows.wallLongsSpec.pre6 enc Try.prog Try.f5 Rows.wallLongsRow.domain false) (Rows.wallLongsSpec.post enc Try.prog Try.f5 false true false false) := by
  refine returnsInHanded_of_change (C := Try.checked) own started (by kernel_rfl) Try.func5
    (ChangeSpec.witness6 (enc := enc) (C := Try.checked) false ⟨#[], #[.agg #[.slice none 0 0, .int .i64 0, .slice none 0 0], .int .i64 0], []⟩ 8 (by kernel_rfl) (by kernel_rfl) (by kernel_rfl) (by kernel_rfl)) ?_
  intro W base args ds gs before hval0 hW hcnd _
  have hval : ∀ (j : Nat) t v, Try.f5.params[j]? = some t → args[j]? = some v → Value.okWide Try.prog W .any base t v := hval0
  have hW' := hW
  have hltW : ∀ x ∈ before, x.block < W.heap.size := fun x hx => by simpa using hW.lt x hx
  obtain ⟨p, q, hA0, hV, rfl, hfz, hnd⟩ := hW
  have hlt : ∀ x ∈ p, x.block < W.heap.size := fun x hx => hltW x (by simp [hx])
  clear hltW
  have hA : DataW.TrodAll enc Try.prog W 0 (fun _ => true) true Try.f5.params.toList args.toList ds p := hA0
  rw [Try.params5] at hA hval
  obtain ⟨v0, vs0, d0, ds0, p0, q0, hargs, rfl, rfl, h0, r0⟩ := trodAll_cons hA
  obtain ⟨v1, vs1, d1, ds1, p1, q1, rfl, rfl, rfl, h1, r1⟩ := trodAll_cons r0
  obtain ⟨rfl, rfl, rfl⟩ := trodAll_nil r1
  obtain rfl : args = #[v0, v1] := by cases args; simp_all
  obtain ⟨rfl, rfl⟩ := trodVars_none hV
  obtain ⟨A0, C0, cT0, cC0, ts0, fi0, cs0, rfl, HT0, wf0, wt0, wc0⟩ := val_table (hval 0 25 v0 rfl rfl) h0
  obtain ⟨a1, rfl, rfl, rfl, w1⟩ := open_int Try.underlying3 (hval 1 3 v1 rfl rfl) h1
  clear hA0 hval0
  refine (walk A0 C0 cT0 cC0 ts0 fi0 cs0 a1 W HT0).mono fun e W' ⟨he, hg⟩ => ?_
  subst he
  exact ⟨_, rfl, law_post rfl hW' rfl rfl rfl rfl (by rw [Try.params5]; decide +kernel) hg⟩

/-- the statement -/
theorem proved : Rows.WallLongsSaid :=
  OpenClaim.holds_of_wide 5 Try.f5 rfl rfl rfl rfl rfl rfl rfl ⟨rfl, rfl, rfl, rfl, rfl⟩ rfl rfl rfl rfl rfl (by kernel_rfl) Try.func5 (by kernel_rfl)
    (of_decide_eq_true (by kernel_rfl)) (by unfold Func.isWrapper; first | (rw [if_pos (by decide +kernel)]; kernel_rfl) | (rw [if_neg (by decide +kernel)]; exact ⟨rfl, rfl⟩))
    (fun os started H enc _ => lifted os started H enc)
end Go.Proofs.Ytgnodiegippkeaa.wallLongs
