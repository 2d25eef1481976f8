/- The law DayFinds holds at every input: Check and Of return what the reference returns. No condition. -/
import Derived.Test.YtiiilpfapggihaaLawKit
import Derived.Test.YtiiilpfapggihaaDayA
import Derived.Test.YtiiilpfapggihaaDayR2
import Derived.Deep.RegionHeld3
import Derived.Deep.DrawnRows
namespace Go.Proofs.Ytiiilpfapggihaa.dayFinds
open Go.ChangeShapes Go.WideShapes Go.ChangeAt Go.RowKit
set_option linter.unusedVariables false
theorem keep3 {w W w1 : World} {k wd n : Value} (h : w.heap.size < W.heap.size ∧ W.cell? ⟨w.heap.size, 0, none⟩ = some k ∧ W.cell? ⟨w.heap.size, 1, none⟩ = some wd ∧ W.cell? ⟨w.heap.size, 2, none⟩ = some n ∧ Below w.heap.size w W)
    (hb : Below W.heap.size W w1) : w.heap.size < w1.heap.size ∧ w1.cell? ⟨w.heap.size, 0, none⟩ = some k ∧ w1.cell? ⟨w.heap.size, 1, none⟩ = some wd ∧ w1.cell? ⟨w.heap.size, 2, none⟩ = some n ∧ Below w.heap.size w w1 := by
  obtain ⟨h1, h2, h3, h4, h5⟩ := h
  have := hb.size
  exact ⟨by omega, (hb.cell h1).trans h2, (hb.cell h1).trans h3, (hb.cell h1).trans h4, h5.trans (hb.mono (Nat.le_of_lt h1))⟩
attribute [local go_sem ↓] Go.wp_at_zero Go.wp_at_succ

set_option maxHeartbeats 1000000 in
theorem walk (y m k wd n : Int) (w : World) :
    Calls Try.prog 8 #[.int .i64 y, .int .i64 m, .agg #[.int .i64 k, .int .i64 wd, .int .i64 n]] w fun e w' => e = .returned (.bool true) ∧ Below w.heap.size w w' := by
  have z0 : dcE 0 0 0 = 1 := by decide
  go_enter Try.func8, Try.ntmps8
  go_wp2_with fail
  refine (d_Of _ _ _ _ _ _).mono ?_
  rintro e w1 ⟨rfl, hb⟩
  obtain ⟨c0, c1, c2, hz, hb1⟩ := box3 hb
  clear hb
  go_wp2_with fail
  refine (r_DayOf _ _ _ _ _ _).mono ?_
  rintro e w2 ⟨rfl, hb2⟩
  have hS := keep3 ⟨hz, c0, c1, c2, hb1⟩ hb2
  clear hz c0 c1 c2 hb1 hb2
  go_wp2_with fail
  go_region_held3 (fun w' => w.heap.size < w'.heap.size ∧ w'.cell? ⟨w.heap.size, 0, none⟩ = some (.int .i64 k) ∧ w'.cell? ⟨w.heap.size, 1, none⟩ = some (.int .i64 wd) ∧ w'.cell? ⟨w.heap.size, 2, none⟩ = some (.int .i64 n) ∧ Below w.heap.size w w')
    (first | exact ⟨hS.1, hS.2.1, hS.2.2.1, hS.2.2.2.1, hS.2.2.2.2.drew⟩ | exact keep3 (by assumption) (by assumption))
    (first | (go_at_call 26; refine (d_Check _ _ _ _).mono ?_; rintro e w5 ⟨rfl, hb5⟩) | (go_at_call 27; refine (r_DayCheck _ _ _ _).mono ?_; rintro e w5 ⟨rfl, hb5⟩))
  all_goals
    rename_i hX
    obtain ⟨_, _, _, _, hX⟩ := hX
    go_wp2
    go_ret
    exact ⟨rfl, hX⟩

set_option maxRecDepth 100000 in
theorem lifted (os : Os) (started : os.Started) (H : Type) (enc : TypeId × Value → H) :
    ReturnsInHanded {} Try.checked os 8 .any (Rows.dayFindsSpec.pre6 enc Try.prog Try.f8 Rows.dayFindsRow.domain false) (Rows.dayFindsSpec.post enc Try.prog Try.f8 false true false false) := by
  refine returnsInHanded_of_change (C := Try.checked) own started (by kernel_rfl) Try.func8
    (ChangeSpec.witness6 (enc := enc) (C := Try.checked) false ⟨#[], #[.int .i64 0, .int .i64 0, .agg #[.int .i64 0, .int .i64 0, .int .i64 0]], []⟩ 8 (by kernel_rfl) (by kernel_rfl) (by kernel_rfl) (by kernel_rfl)) ?_
  intro W base args ds gs before hval0 hW hcnd _
  have hval : ∀ (j : Nat) t v, Try.f8.params[j]? = some t → args[j]? = some v → Value.okWide Try.prog W .any base t v := hval0
  have hW' := hW
  have hltW : ∀ x ∈ before, x.block < W.heap.size := fun x hx => by simpa using hW.lt x hx
  obtain ⟨p, q, hA0, hV, rfl, hfz, hnd⟩ := hW
  have hlt : ∀ x ∈ p, x.block < W.heap.size := fun x hx => hltW x (by simp [hx])
  clear hltW
  have hA : DataW.TrodAll enc Try.prog W 0 (fun _ => true) true Try.f8.params.toList args.toList ds p := hA0
  rw [Try.params8] at hA hval
  obtain ⟨v0, vs0, d0, ds0, p0, q0, hargs, rfl, rfl, h0, r0⟩ := trodAll_cons hA
  obtain ⟨v1, vs1, d1, ds1, p1, q1, rfl, rfl, rfl, h1, r1⟩ := trodAll_cons r0
  obtain ⟨v2, vs2, d2, ds2, p2, q2, rfl, rfl, rfl, h2, r2⟩ := trodAll_cons r1
  obtain ⟨rfl, rfl, rfl⟩ := trodAll_nil r2
  obtain rfl : args = #[v0, v1, v2] := by cases args; simp_all
  obtain ⟨rfl, rfl⟩ := trodVars_none hV
  obtain ⟨a0, rfl, rfl, rfl, w0⟩ := open_int Try.underlying3 (hval 0 3 v0 rfl rfl) h0
  obtain ⟨a1, rfl, rfl, rfl, w1⟩ := open_int Try.underlying3 (hval 1 3 v1 rfl rfl) h1
  obtain ⟨k2, wd2, n2, rfl, wk2, ww2, wn2⟩ := open_day (hval 2 38 v2 rfl rfl) h2
  clear hA0 hval0
  refine (walk a0 a1 k2 wd2 n2 W).mono fun e W' ⟨he, hg⟩ => ?_
  subst he
  exact ⟨_, rfl, law_post rfl hW' rfl rfl rfl rfl (by rw [Try.params8]; decide +kernel) hg⟩

/-- the statement -/
theorem proved : Rows.DayFindsSaid :=
  OpenClaim.holds_of_wide 8 Try.f8 rfl rfl rfl rfl rfl rfl rfl ⟨rfl, rfl, rfl, rfl, rfl⟩ rfl rfl rfl rfl rfl (by kernel_rfl) Try.func8 (by kernel_rfl)
    (of_decide_eq_true (by kernel_rfl)) (by unfold Func.isWrapper; first | (rw [if_pos (by decide +kernel)]; kernel_rfl) | (rw [if_neg (by decide +kernel)]; exact ⟨rfl, rfl⟩))
    (fun os started H enc _ => lifted os started H enc)
end Go.Proofs.Ytiiilpfapggihaa.dayFinds
