/- The law RiteTurns holds at every input: Turns returns what the reference returns. No condition. -/
import Derived.Test.YtgnodiegippkeaaLawKit
import Derived.Test.YtgnodiegippkeaaRtR
import Derived.Deep.RegionHeld3
import Derived.Deep.DrawnRows
namespace Go.Proofs.Ytgnodiegippkeaa.riteTurns
open Go.ChangeShapes Go.WideShapes Go.ChangeAt Go.RowKit
set_option linter.unusedVariables false
attribute [local go_sem ↓] Go.wp_at_zero Go.wp_at_succ

set_option maxRecDepth 100000 in
set_option maxHeartbeats 4000000 in
theorem walk (name : ByteArray) (off : Int) (also : ByteArray) (aoff m1 k1 d1 a1 m2 k2 d2 a2 : Int) (hn : name.size ≤ maxLen) (hl : also.size ≤ maxLen) (y : Int) (w : World) :
    Calls Try.prog 11 #[.agg #[.string name, .int .i64 off, .string also, .int .i64 aoff, .int .i64 m1, .int .i64 k1, .int .i64 d1, .int .i64 a1, .int .i64 m2, .int .i64 k2, .int .i64 d2, .int .i64 a2], .int .i64 y] w
      fun e w' => e = .returned (.bool true) ∧ Below w.heap.size w w' := by
  have z0 : posE ⟨#[]⟩ 0 ⟨#[]⟩ 0 0 0 0 0 0 0 0 0 = 3 := by decide
  go_enter Try.func11, Try.ntmps11
  go_wp2_with (first | (go_at_call 37; refine (i_Turns _ _ _ _ _ _ _ _ _ _ _ _ _ hn hl _).mono ?_; rintro e w1 ⟨rfl, hb⟩; first | (obtain ⟨hcs, hz, hb'⟩ := boxc hb; clear hb) | (have K := keepc hcs hz hb' hb; clear hcs hz hb' hb; obtain ⟨hcs, hz, hb'⟩ := K)) | (go_at_call 38; refine (r_RiteTurns _ _ _ _ _ _ _ _ _ _ _ _ _ hn hl _).mono ?_; rintro e w1 ⟨rfl, hb⟩; first | (obtain ⟨hcs, hz, hb'⟩ := boxc hb; clear hb) | (have K := keepc hcs hz hb' hb; clear hcs hz hb' hb; obtain ⟨hcs, hz, hb'⟩ := K)) | (go_at_call 32; refine (i_Check _ _ _ _ _ _ _ _ _ _ _ _ (by unfold maxLen; decide) (by unfold maxLen; decide) _).mono ?_; rintro e w5 ⟨rfl, hb5⟩))
  go_ret
  exact ⟨rfl, hb'.trans (hb5.mono hb'.size)⟩

set_option maxRecDepth 100000 in
theorem lifted (os : Os) (started : os.Started) (H : Type) (enc : TypeId × Value → H) :
    ReturnsInHanded {} Try.checked os 11 .any (Rows.riteTurnsSpec.pre6 enc Try.prog Try.f11 Rows.riteTurnsRow.domain false) (Rows.riteTurnsSpec.post enc Try.prog Try.f11 false true false false) := by
  refine returnsInHanded_of_change (C := Try.checked) own started (by kernel_rfl) Try.func11
    (ChangeSpec.witness6 (enc := enc) (C := Try.checked) false ⟨#[], #[.agg #[.string ⟨#[]⟩, .int .i64 0, .string ⟨#[]⟩, .int .i64 0, .int .i64 0, .int .i64 0, .int .i64 0, .int .i64 0, .int .i64 0, .int .i64 0, .int .i64 0, .int .i64 0], .int .i64 0], []⟩ 8 (by kernel_rfl) (by kernel_rfl) (by kernel_rfl) (by kernel_rfl)) ?_
  intro W base args ds gs before hval0 hW hcnd _
  have hval : ∀ (j : Nat) t v, Try.f11.params[j]? = some t → args[j]? = some v → Value.okWide Try.prog W .any base t v := hval0
  have hW' := hW
  have hltW : ∀ x ∈ before, x.block < W.heap.size := fun x hx => by simpa using hW.lt x hx
  obtain ⟨p, q, hA0, hV, rfl, hfz, hnd⟩ := hW
  have hlt : ∀ x ∈ p, x.block < W.heap.size := fun x hx => hltW x (by simp [hx])
  clear hltW
  have hA : DataW.TrodAll enc Try.prog W 0 (fun _ => true) true Try.f11.params.toList args.toList ds p := hA0
  rw [Try.params11] at hA hval
  obtain ⟨v0, vs0, d0, ds0, p0, q0, hargs, rfl, rfl, h0, r0⟩ := trodAll_cons hA
  obtain ⟨v1, vs1, d1, ds1, p1, q1, rfl, rfl, rfl, h1, r1⟩ := trodAll_cons r0
  obtain ⟨rfl, rfl, rfl⟩ := trodAll_nil r1
  obtain rfl : args = #[v0, v1] := by cases args; simp_all
  obtain ⟨rfl, rfl⟩ := trodVars_none hV
  obtain ⟨name0, off0, also0, aoff0, smo0, swe0, swd0, sa0, emo0, ewe0, ewd0, ea0, rfl, wi_off0, wi_aoff0, wi_smo0, wi_swe0, wi_swd0, wi_sa0, wi_emo0, wi_ewe0, wi_ewd0, wi_ea0, ws_name0, ws_also0⟩ := val_posix (hval 0 57 v0 rfl rfl) h0
  obtain ⟨a1, rfl, rfl, rfl, w1⟩ := open_int Try.underlying3 (hval 1 3 v1 rfl rfl) h1
  clear hA0 hval0
  refine (walk name0 off0 also0 aoff0 smo0 swe0 swd0 sa0 emo0 ewe0 ewd0 ea0 ws_name0 ws_also0 a1 W ).mono fun e W' ⟨he, hg⟩ => ?_
  subst he
  exact ⟨_, rfl, law_post rfl hW' rfl rfl rfl rfl (by rw [Try.params11]; decide +kernel) hg⟩

/-- the statement -/
theorem proved : Rows.RiteTurnsSaid :=
  OpenClaim.holds_of_wide 11 Try.f11 rfl rfl rfl rfl rfl rfl rfl ⟨rfl, rfl, rfl, rfl, rfl⟩ rfl rfl rfl rfl rfl (by kernel_rfl) Try.func11 (by kernel_rfl)
    (of_decide_eq_true (by kernel_rfl)) (by unfold Func.isWrapper; first | (rw [if_pos (by decide +kernel)]; kernel_rfl) | (rw [if_neg (by decide +kernel)]; exact ⟨rfl, rfl⟩))
    (fun os started H enc _ => lifted os started H enc)
end Go.Proofs.Ytgnodiegippkeaa.riteTurns
