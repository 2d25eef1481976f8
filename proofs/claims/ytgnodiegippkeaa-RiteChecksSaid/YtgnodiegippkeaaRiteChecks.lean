/- The law RiteChecks holds at every input: Check returns what the reference returns. No condition. -/
import Derived.Test.YtgnodiegippkeaaLawKit
import Derived.Test.YtgnodiegippkeaaRiB
import Derived.Test.YtgnodiegippkeaaRiR2
import Derived.Deep.RegionHeld3
import Derived.Deep.DrawnRows
namespace Go.Proofs.Ytgnodiegippkeaa.riteChecks
open Go.ChangeShapes Go.WideShapes Go.ChangeAt Go.RowKit
set_option linter.unusedVariables false
attribute [local go_sem ↓] Go.wp_at_zero Go.wp_at_succ

set_option maxRecDepth 100000 in
set_option maxHeartbeats 4000000 in
theorem walk (name : ByteArray) (off : Int) (also : ByteArray) (aoff m1 k1 d1 a1 m2 k2 d2 a2 : Int) (hn : name.size ≤ maxLen) (hl : also.size ≤ maxLen) (w : World) :
    Calls Try.prog 9 #[.agg #[.string name, .int .i64 off, .string also, .int .i64 aoff, .int .i64 m1, .int .i64 k1, .int .i64 d1, .int .i64 a1, .int .i64 m2, .int .i64 k2, .int .i64 d2, .int .i64 a2]] w
      fun e w' => e = .returned (.bool true) ∧ Below w.heap.size w w' := by
  have z0 : posE ⟨#[]⟩ 0 ⟨#[]⟩ 0 0 0 0 0 0 0 0 0 = 3 := by decide
  have hm : ∀ q : ByteArray, q.size ≤ 5 → q.size ≤ maxLen := fun q hq => by unfold maxLen; omega
  have HM := Lib.hid hm
  clear hm
  obtain ⟨cs, hcs⟩ : ∃ cs : Array Value, cs = #[.string name, .int .i64 off, .string also, .int .i64 aoff, .int .i64 m1, .int .i64 k1, .int .i64 d1, .int .i64 a1, .int .i64 m2, .int .i64 k2, .int .i64 d2, .int .i64 a2] := ⟨_, rfl⟩
  have hS := boxc (w := w) (cs := cs) (t := 57) (Below.refl _ _)
  rw [hcs] at hS
  clear hcs
  go_enter Try.func9, Try.ntmps9
  go_wp2_with fail
  go_region_held3 (fun w' => (∀ i, w'.cell? ⟨w.heap.size, i, none⟩ = (#[.string name, .int .i64 off, .string also, .int .i64 aoff, .int .i64 m1, .int .i64 k1, .int .i64 d1, .int .i64 a1, .int .i64 m2, .int .i64 k2, .int .i64 d2, .int .i64 a2] : Array Value)[i]?) ∧ w.heap.size < w'.heap.size ∧ Below w.heap.size w w')
    (first | exact ⟨hS.1, hS.2.1, hS.2.2.drew⟩ | assumption | exact keepS (by assumption) (by assumption))
    (first | (go_at_call 32; refine (i_Check _ _ _ _ _ _ _ _ _ _ _ _ ?_ ?_ _).mono ?_; (first | exact hn | exact HM.out _ (by decide)); (first | exact hl | exact HM.out _ (by decide)); rintro e w5 ⟨rfl, hb5⟩) | (go_at_call 33; refine (r_RiteCheck _ _ _ _ _ _ _ _ _ _ _ _ hn hl _).mono ?_; rintro e w5 ⟨rfl, hb5⟩))
  all_goals
    rename_i hX
    obtain ⟨_, _, hX⟩ := hX
    go_wp2
    go_ret
    exact ⟨rfl, hX⟩

set_option maxRecDepth 100000 in
theorem lifted (os : Os) (started : os.Started) (H : Type) (enc : TypeId × Value → H) :
    ReturnsInHanded {} Try.checked os 9 .any (Rows.riteChecksSpec.pre6 enc Try.prog Try.f9 Rows.riteChecksRow.domain false) (Rows.riteChecksSpec.post enc Try.prog Try.f9 false true false false) := by
  refine returnsInHanded_of_change (C := Try.checked) own started (by kernel_rfl) Try.func9
    (ChangeSpec.witness6 (enc := enc) (C := Try.checked) false ⟨#[], #[.agg #[.string ⟨#[]⟩, .int .i64 0, .string ⟨#[]⟩, .int .i64 0, .int .i64 0, .int .i64 0, .int .i64 0, .int .i64 0, .int .i64 0, .int .i64 0, .int .i64 0, .int .i64 0]], []⟩ 8 (by kernel_rfl) (by kernel_rfl) (by kernel_rfl) (by kernel_rfl)) ?_
  intro W base args ds gs before hval0 hW hcnd _
  have hval : ∀ (j : Nat) t v, Try.f9.params[j]? = some t → args[j]? = some v → Value.okWide Try.prog W .any base t v := hval0
  have hW' := hW
  have hltW : ∀ x ∈ before, x.block < W.heap.size := fun x hx => by simpa using hW.lt x hx
  obtain ⟨p, q, hA0, hV, rfl, hfz, hnd⟩ := hW
  have hlt : ∀ x ∈ p, x.block < W.heap.size := fun x hx => hltW x (by simp [hx])
  clear hltW
  have hA : DataW.TrodAll enc Try.prog W 0 (fun _ => true) true Try.f9.params.toList args.toList ds p := hA0
  rw [Try.params9] at hA hval
  obtain ⟨v0, vs0, d0, ds0, p0, q0, hargs, rfl, rfl, h0, r0⟩ := trodAll_cons hA
  obtain ⟨rfl, rfl, rfl⟩ := trodAll_nil r0
  obtain rfl : args = #[v0] := by cases args; simp_all
  obtain ⟨rfl, rfl⟩ := trodVars_none hV
  obtain ⟨name0, off0, also0, aoff0, smo0, swe0, swd0, sa0, emo0, ewe0, ewd0, ea0, rfl, wi_off0, wi_aoff0, wi_smo0, wi_swe0, wi_swd0, wi_sa0, wi_emo0, wi_ewe0, wi_ewd0, wi_ea0, ws_name0, ws_also0⟩ := val_posix (hval 0 57 v0 rfl rfl) h0
  clear hA0 hval0
  refine (walk name0 off0 also0 aoff0 smo0 swe0 swd0 sa0 emo0 ewe0 ewd0 ea0 ws_name0 ws_also0 W ).mono fun e W' ⟨he, hg⟩ => ?_
  subst he
  exact ⟨_, rfl, law_post rfl hW' rfl rfl rfl rfl (by rw [Try.params9]; decide +kernel) hg⟩

/-- the statement -/
theorem proved : Rows.RiteChecksSaid :=
  OpenClaim.holds_of_wide 9 Try.f9 rfl rfl rfl rfl rfl rfl rfl ⟨rfl, rfl, rfl, rfl, rfl⟩ rfl rfl rfl rfl rfl (by kernel_rfl) Try.func9 (by kernel_rfl)
    (of_decide_eq_true (by kernel_rfl)) (by unfold Func.isWrapper; first | (rw [if_pos (by decide +kernel)]; kernel_rfl) | (rw [if_neg (by decide +kernel)]; exact ⟨rfl, rfl⟩))
    (fun os started H enc _ => lifted os started H enc)
end Go.Proofs.Ytgnodiegippkeaa.riteChecks
