/- The law RuleChecks holds at every input: IsName, IsAbbr and Check return what the reference returns. No condition. -/
import Derived.Test.YtiiilpfapggihaaLawKit
import Derived.Test.YtiiilpfapggihaaOpen
import Derived.Test.YtiiilpfapggihaaRuleC
import Derived.Test.YtiiilpfapggihaaRuleRC
import Derived.Deep.RegionHeld3
import Derived.Deep.DrawnRows
namespace Go.Proofs.Ytiiilpfapggihaa.ruleChecks
open Go.ChangeShapes Go.WideShapes Go.ChangeAt Go.RowKit
set_option linter.unusedVariables false
attribute [local go_sem ↓] Go.wp_at_zero Go.wp_at_succ

set_option maxRecDepth 100000 in
set_option maxHeartbeats 4000000 in
theorem walk (name : ByteArray) (f t m k wd n a b sv : Int) (letter : ByteArray) (hn : name.size ≤ maxLen) (hl : letter.size ≤ maxLen) (s : ByteArray) (hs : s.size ≤ maxLen) (w : World) :
    Calls Try.prog 10 #[.agg #[.string name, .int .i64 f, .int .i64 t, .int .i64 m, .int .i64 k, .int .i64 wd, .int .i64 n, .int .i64 a, .int .i64 b, .int .i64 sv, .string letter], .string s] w
      fun e w' => e = .returned (.bool true) ∧ Below w.heap.size w w' := by
  have z0 : ruleE ⟨#[]⟩ ⟨#[]⟩ 0 0 0 0 0 0 0 0 0 = 3 := by decide
  have z1 : isNameB [97] = true := by decide
  have hm : ∀ q : ByteArray, q.size ≤ 5 → q.size ≤ maxLen := fun q hq => by unfold maxLen; omega
  have HM := Lib.hid hm
  clear hm
  obtain ⟨cs, hcs⟩ : ∃ cs : Array Value, cs = #[.string name, .int .i64 f, .int .i64 t, .int .i64 m, .int .i64 k, .int .i64 wd, .int .i64 n, .int .i64 a, .int .i64 b, .int .i64 sv, .string letter] := ⟨_, rfl⟩
  have hS := boxc (w := w) (cs := cs) (t := 49) (Below.refl _ _)
  rw [hcs] at hS
  clear hcs
  go_enter Try.func10, Try.ntmps10
  go_wp2_with fail
  go_region_held3 (fun w' => (∀ i, w'.cell? ⟨w.heap.size, i, none⟩ = (#[.string name, .int .i64 f, .int .i64 t, .int .i64 m, .int .i64 k, .int .i64 wd, .int .i64 n, .int .i64 a, .int .i64 b, .int .i64 sv, .string letter] : Array Value)[i]?) ∧ w.heap.size < w'.heap.size ∧ Below w.heap.size w w')
    (first | exact ⟨hS.1, hS.2.1, hS.2.2.drew⟩ | assumption | exact keepS (by assumption) (by assumption))
    (first | (go_at_call 30; refine (u_Check _ _ _ _ _ _ _ _ _ _ _ ?_ ?_ _).mono ?_; (first | exact hn | exact HM.out _ (by decide)); (first | exact hl | exact HM.out _ (by decide)); rintro e w5 ⟨rfl, hb5⟩) | (go_at_call 31; refine (r_RuleCheck _ _ _ _ _ _ _ _ _ _ _ hn hl _).mono ?_; rintro e w5 ⟨rfl, hb5⟩) | (go_at_call 32; refine (u_IsName _ ?_ _).mono ?_; (first | exact hs | exact HM.out _ (by decide)); rintro e w5 ⟨rfl, rfl⟩) | (go_at_call 33; refine (r_IsName _ hs _).mono ?_; rintro e w5 ⟨rfl, hb5⟩) | (go_at_call 34; refine (u_IsAbbr _ hs _).mono ?_; rintro e w5 ⟨rfl, rfl⟩) | (go_at_call 35; refine (r_IsAbbr _ hs _).mono ?_; rintro e w5 ⟨rfl, hb5⟩))
  all_goals
    rename_i hX
    obtain ⟨_, _, hX⟩ := hX
    go_wp2
    go_ret
    exact ⟨rfl, hX⟩

set_option maxRecDepth 100000 in
theorem lifted (os : Os) (started : os.Started) (H : Type) (enc : TypeId × Value → H) :
    ReturnsInHanded {} Try.checked os 10 .any (Rows.ruleChecksSpec.pre6 enc Try.prog Try.f10 Rows.ruleChecksRow.domain false) (Rows.ruleChecksSpec.post enc Try.prog Try.f10 false true false false) := by
  refine returnsInHanded_of_change (C := Try.checked) own started (by kernel_rfl) Try.func10
    (ChangeSpec.witness6 (enc := enc) (C := Try.checked) false ⟨#[], #[.agg #[.string ⟨#[]⟩, .int .i64 0, .int .i64 0, .int .i64 0, .int .i64 0, .int .i64 0, .int .i64 0, .int .i64 0, .int .i64 0, .int .i64 0, .string ⟨#[]⟩], .string ⟨#[]⟩], []⟩ 8 (by kernel_rfl) (by kernel_rfl) (by kernel_rfl) (by kernel_rfl)) ?_
  intro W base args ds gs before hval0 hW hcnd _
  have hval : ∀ (j : Nat) t v, Try.f10.params[j]? = some t → args[j]? = some v → Value.okWide Try.prog W .any base t v := hval0
  have hW' := hW
  have hltW : ∀ x ∈ before, x.block < W.heap.size := fun x hx => by simpa using hW.lt x hx
  obtain ⟨p, q, hA0, hV, rfl, hfz, hnd⟩ := hW
  have hlt : ∀ x ∈ p, x.block < W.heap.size := fun x hx => hltW x (by simp [hx])
  clear hltW
  have hA : DataW.TrodAll enc Try.prog W 0 (fun _ => true) true Try.f10.params.toList args.toList ds p := hA0
  rw [Try.params10] at hA hval
  obtain ⟨v0, vs0, d0, ds0, p0, q0, hargs, rfl, rfl, h0, r0⟩ := trodAll_cons hA
  obtain ⟨v1, vs1, d1, ds1, p1, q1, rfl, rfl, rfl, h1, r1⟩ := trodAll_cons r0
  obtain ⟨rfl, rfl, rfl⟩ := trodAll_nil r1
  obtain rfl : args = #[v0, v1] := by cases args; simp_all
  obtain ⟨rfl, rfl⟩ := trodVars_none hV
  obtain ⟨name0, f0, t0, m0, onk0, onwd0, onn0, a0, b0, sv0, letter0, rfl, wi_f0, wi_t0, wi_m0, wi_onk0, wi_onwd0, wi_onn0, wi_a0, wi_b0, wi_sv0, ws_name0, ws_letter0⟩ := val_rule (hval 0 49 v0 rfl rfl) h0
  obtain ⟨a1, rfl, rfl, rfl, w1⟩ := Go.ChangeMaps.open_string Try.underlying9 (hval 1 9 v1 rfl rfl) h1
  clear hA0 hval0
  refine (walk name0 f0 t0 m0 onk0 onwd0 onn0 a0 b0 sv0 letter0 ws_name0 ws_letter0 a1 w1 W).mono fun e W' ⟨he, hg⟩ => ?_
  subst he
  exact ⟨_, rfl, law_post rfl hW' rfl rfl rfl rfl (by rw [Try.params10]; decide +kernel) hg⟩

/-- the statement -/
theorem proved : Rows.RuleChecksSaid :=
  OpenClaim.holds_of_wide 10 Try.f10 rfl rfl rfl rfl rfl rfl rfl ⟨rfl, rfl, rfl, rfl, rfl⟩ rfl rfl rfl rfl rfl (by kernel_rfl) Try.func10 (by kernel_rfl)
    (of_decide_eq_true (by kernel_rfl)) (by unfold Func.isWrapper; first | (rw [if_pos (by decide +kernel)]; kernel_rfl) | (rw [if_neg (by decide +kernel)]; exact ⟨rfl, rfl⟩))
    (fun os started H enc _ => lifted os started H enc)
end Go.Proofs.Ytiiilpfapggihaa.ruleChecks
