/- The law TableChecks holds at every input: Check returns what the reference returns. No condition. -/
import Derived.Test.YtiiilpfapggihaaLawKit
import Derived.Test.YtiiilpfapggihaaOpenSl
import Derived.Test.YtiiilpfapggihaaTabA
import Derived.Test.YtiiilpfapggihaaTabR
import Derived.Deep.RegionHeld3
import Derived.Deep.DrawnRows
namespace Go.Proofs.Ytiiilpfapggihaa.tableChecks
open Go.ChangeShapes Go.WideShapes Go.ChangeAt Go.RowKit
set_option linter.unusedVariables false
attribute [local go_sem ↓] Go.wp_at_zero Go.wp_at_succ

set_option maxRecDepth 100000 in
set_option maxHeartbeats 4000000 in
theorem walk (A C : Option Addr) (capT capC : Nat) (ts : List Ty) (first : Int) (cs : List Ch) (w : World) (H : TabAt w A C capT capC ts cs) :
    Calls Try.prog 9 #[.agg #[.slice A ts.length capT, .int .i64 first, .slice C cs.length capC]] w fun e w' => e = .returned (.bool true) ∧ Below w.heap.size w w' := by
  have hS := boxc (w := w) (cs := #[.slice A ts.length capT, .int .i64 first, .slice C cs.length capC]) (t := 45) (Below.refl _ _)
  have HH := Lib.hid (fun (W : World) (hb : (∀ i, W.cell? ⟨w.heap.size, i, none⟩ = (#[.slice A ts.length capT, .int .i64 first, .slice C cs.length capC] : Array Value)[i]?) ∧ w.heap.size < W.heap.size ∧ Below w.heap.size w W) => H.below hb.2.2)
  clear H
  go_enter Try.func9, Try.ntmps9
  go_wp2_with fail
  go_region_held3 (fun w' => (∀ i, w'.cell? ⟨w.heap.size, i, none⟩ = (#[.slice A ts.length capT, .int .i64 first, .slice C cs.length capC] : Array Value)[i]?) ∧ w.heap.size < w'.heap.size ∧ Below w.heap.size w w')
    (first | exact ⟨hS.1, hS.2.1, hS.2.2.drew⟩ | assumption | exact keepS (by assumption) (by assumption))
    (first | (go_at_call 28; with_reducible refine (t_Check_zero _).mono ?_; rintro e w5 ⟨rfl, hb5⟩) | (go_at_call 28; refine (t_Check A C capT capC ts first cs _ ?_).mono ?_; (exact HH.out _ (by assumption)); rintro e w5 ⟨rfl, hb5⟩) | (go_at_call 29; refine (r_TableCheck A C capT capC ts first cs _ ?_).mono ?_; (exact HH.out _ (by assumption)); rintro e w5 ⟨rfl, hb5⟩))
  all_goals
    rename_i hX
    obtain ⟨_, _, hX⟩ := hX
    go_wp2
    go_ret
    exact ⟨rfl, hX⟩

set_option maxRecDepth 100000 in
theorem lifted (os : Os) (started : os.Started) (H : Type) (enc : TypeId × Value → H) :
    ReturnsInHanded {} Try.checked os 9 .any (Rows.tableChecksSpec.pre6 enc Try.prog Try.f9 Rows.tableChecksRow.domain false) (Rows.tableChecksSpec.post enc Try.prog Try.f9 false true false false) := by
  refine returnsInHanded_of_change (C := Try.checked) own started (by kernel_rfl) Try.func9
    (ChangeSpec.witness6 (enc := enc) (C := Try.checked) false ⟨#[], #[.agg #[.slice none 0 0, .int .i64 0, .slice none 0 0]], []⟩ 8 (by kernel_rfl) (by kernel_rfl) (by kernel_rfl) (by kernel_rfl)) ?_
  intro W base args ds gs before hval0 hW hcnd _
  have hval : ∀ (j : Nat) t v, Try.f9.params[j]? = some t → args[j]? = some v → Value.okWide Try.prog W .any base t v := hval0
  have hW' := hW
  have hltW : ∀ x ∈ before, x.block < W.heap.size := fun x hx => by simpa using hW.lt x hx
  obtain ⟨p, q, hA0, hV, rfl, hfz, hnd⟩ := hW
  have hlt : ∀ x ∈ p, x.block < W.heap.size := fun x hx => hltW x (by simp [hx])
  clear hltW
  have hA : DataW.TrodAll enc Try.prog W 0 (fun _ => true) true Try.f9.params.toList args.toList ds p := hA0
  rw [Try.params9] at hA hval
  obtain ⟨v0, vs0, d0, ds0, p0, q0, hargs, rfl, rfl, h0, r0⟩ := trodAll_cons hA
  obtain ⟨rfl, rfl, rfl⟩ := trodAll_nil r0
  obtain rfl : args = #[v0] := by cases args; simp_all
  obtain ⟨rfl, rfl⟩ := trodVars_none hV
  obtain ⟨A0, C0, cT0, cC0, ts0, fi0, cs0, rfl, HT0, wf0, wt0, wc0⟩ := val_table (hval 0 45 v0 rfl rfl) h0
  clear hA0 hval0
  refine (walk A0 C0 cT0 cC0 ts0 fi0 cs0 W HT0).mono fun e W' ⟨he, hg⟩ => ?_
  subst he
  exact ⟨_, rfl, law_post rfl hW' rfl rfl rfl rfl (by rw [Try.params9]; decide +kernel) hg⟩

/-- the statement -/
theorem proved : Rows.TableChecksSaid :=
  OpenClaim.holds_of_wide 9 Try.f9 rfl rfl rfl rfl rfl rfl rfl ⟨rfl, rfl, rfl, rfl, rfl⟩ rfl rfl rfl rfl rfl (by kernel_rfl) Try.func9 (by kernel_rfl)
    (of_decide_eq_true (by kernel_rfl)) (by unfold Func.isWrapper; first | (rw [if_pos (by decide +kernel)]; kernel_rfl) | (rw [if_neg (by decide +kernel)]; exact ⟨rfl, rfl⟩))
    (fun os started H enc _ => lifted os started H enc)
end Go.Proofs.Ytiiilpfapggihaa.tableChecks
