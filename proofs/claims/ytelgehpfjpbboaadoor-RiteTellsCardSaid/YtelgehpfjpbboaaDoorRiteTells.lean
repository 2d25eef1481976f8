/- The law RiteTells holds at every input: Text returns what the reference returns. No condition. -/
import Derived.Test.YtelgehpfjpbboaaDoorLawKit
import Derived.Test.YtelgehpfjpbboaaDoorTeA
import Derived.Test.YtelgehpfjpbboaaDoorTeR
import Derived.Test.YtelgehpfjpbboaaDoorCards
import Derived.Test.YtelgehpfjpbboaaDoorTie
import Derived.LaidMore
import Derived.OpenShut
import Derived.Stop.Joined
import Derived.SevenTiedAt
import Derived.Lay
import Derived.MakeChecks
namespace Go.Proofs.YtelgehpfjpbboaaDoor.riteTells
open Go.ChangeShapes Go.WideShapes Go.ChangeAt Go.RowKit
set_option linter.unusedVariables false
set_option maxRecDepth 100000 in
set_option maxHeartbeats 4000000 in
theorem walk (name : ByteArray) (off : Int) (also : ByteArray) (aoff m1 k1 d1 a1 m2 k2 d2 a2 : Int) (hn : name.size ≤ maxLen) (hl : also.size ≤ maxLen) (w : World) :
    Calls Tryd.prog 3 #[.agg #[.string name, .int .i64 off, .string also, .int .i64 aoff, .int .i64 m1, .int .i64 k1, .int .i64 d1, .int .i64 a1, .int .i64 m2, .int .i64 k2, .int .i64 d2, .int .i64 a2]] w fun e w' => e = .returned (.bool true) ∧ Below w.heap.size w w' := by
  have z0 : posE ⟨#[]⟩ 0 ⟨#[]⟩ 0 0 0 0 0 0 0 0 0 = 3 := by decide
  go_enter Tryd.func3, Tryd.ntmps3
  go_wp2_with (first | (go_at_call 7; refine (i_Text _ _ _ _ _ _ _ _ _ _ _ _ hn hl _).mono ?_; rintro e w1 ⟨rfl, hb⟩; first | (obtain ⟨hcs, hz, hb'⟩ := boxc hb; clear hb) | (have K := keepc hcs hz hb' hb; clear hcs hz hb' hb; obtain ⟨hcs, hz, hb'⟩ := K)) | (go_at_call 8; refine (r_RiteText _ _ _ _ _ _ _ _ _ _ _ _ hn hl _).mono ?_; rintro e w1 ⟨rfl, hb⟩; first | (obtain ⟨hcs, hz, hb'⟩ := boxc hb; clear hb) | (have K := keepc hcs hz hb' hb; clear hcs hz hb' hb; obtain ⟨hcs, hz, hb'⟩ := K)) | (go_at_call 9; refine (i_Check _ _ _ _ _ _ _ _ _ _ _ _ (by unfold maxLen; decide) (by unfold maxLen; decide) _).mono ?_; rintro e w5 ⟨rfl, hb5⟩))
  go_ret
  exact ⟨rfl, hb'.trans (hb5.mono hb'.size)⟩

theorem door_met (os : Os) (args : Array Value) : laidMetH Tryd.prog Rows.riteTellsRow.laid ((World.laidAll Tryd.prog os Rows.riteTellsRow.laid).forCall (fun _ _ => 0) ⟨#[], args, []⟩).memory := by
  rw [MakeChecks.laidMetH_plain _ _ _ (by kernel_rfl)]
  exact laidMet_laidAll args (by kernel_rfl) (by kernel_rfl)
set_option maxRecDepth 100000 in
theorem lifted (os : Os) (started : os.Started) (H : Type) (enc : TypeId × Value → H) :
    ReturnsInHanded {} Tryd.checked os 3 .any (fun w args => (Rows.riteTellsSpec.pre enc Tryd.prog Tryd.f3 [] false w args ∧ laidMetH Tryd.prog Rows.riteTellsRow.laid w) ∧ sizedMet enc Tryd.prog Tryd.f3 (OpenSpec.ofChange Rows.riteTellsSpec) false w args)
      (Rows.riteTellsSpec.post enc Tryd.prog Tryd.f3 false true false false) := by
  refine returnsInHanded_of_change_and (C := Tryd.checked) (X := fun w _ => laidMetH Tryd.prog Rows.riteTellsRow.laid w) (fun _ _ _ hh h => h.of_heap hh) own started (by kernel_rfl) Tryd.func3
    (ChangeSpec.witness_shaped (enc := enc) (C := Tryd.checked) (os := os) (X := fun w _ => laidMetH Tryd.prog Rows.riteTellsRow.laid w) false (World.laidAll Tryd.prog os Rows.riteTellsRow.laid) #[.agg #[.string ⟨#[]⟩, .int .i64 0, .string ⟨#[]⟩, .int .i64 0, .int .i64 0, .int .i64 0, .int .i64 0, .int .i64 0, .int .i64 0, .int .i64 0, .int .i64 0, .int .i64 0]] 8 (World.laidAll_os _ _ _) (World.shaped_of_ZipB (by kernel_rfl) (by kernel_rfl)) (by kernel_rfl) (by kernel_rfl) (by kernel_rfl) (door_met os _)) ?_
  intro W base args ds gs before hval0 hW _ _ hL _
  rw [MakeChecks.laidMetH_plain _ _ _ (by kernel_rfl)] at hL
  have hval : ∀ (j : Nat) t v, Tryd.f3.params[j]? = some t → args[j]? = some v → Value.okWide Tryd.prog W .any base t v := hval0
  have hW' := hW
  have hltW : ∀ x ∈ before, x.block < W.heap.size := fun x hx => by simpa using hW.lt x hx
  obtain ⟨p, q, hA0, hV, rfl, hfz, hnd⟩ := hW
  have hlt : ∀ x ∈ p, x.block < W.heap.size := fun x hx => hltW x (by simp [hx])
  clear hltW
  have hA : DataW.TrodAll enc Tryd.prog W 0 (fun _ => true) true Tryd.f3.params.toList args.toList ds p := hA0
  rw [Tryd.params3] at hA hval
  obtain ⟨v0, vs0, d0, ds0, p0, q0, hargs, rfl, rfl, h0, r0⟩ := trodAll_cons hA
  obtain ⟨rfl, rfl, rfl⟩ := trodAll_nil r0
  obtain rfl : args = #[v0] := by cases args; simp_all
  obtain ⟨rfl, rfl⟩ := trodVars_none hV
  obtain ⟨name0, off0, also0, aoff0, smo0, swe0, swd0, sa0, emo0, ewe0, ewd0, ea0, rfl, wi_off0, wi_aoff0, wi_smo0, wi_swe0, wi_swd0, wi_sa0, wi_emo0, wi_ewe0, wi_ewd0, wi_ea0, ws_name0, ws_also0⟩ := val_posix (hval 0 25 v0 rfl rfl) h0
  clear hA0 hval0
  refine (walk name0 off0 also0 aoff0 smo0 swe0 swd0 sa0 emo0 ewe0 ewd0 ea0 ws_name0 ws_also0 W ).mono fun e W' ⟨he, hg⟩ => ?_
  subst he
  exact ⟨_, rfl, law_post rfl hW' rfl rfl rfl rfl (by rw [Tryd.params3]; decide +kernel) hg⟩

/-- the statement -/
theorem proved : Rows.RiteTellsSaid :=
  OpenClaim.holds_of_wide 3 Tryd.f3 rfl rfl rfl rfl rfl rfl rfl ⟨rfl, rfl, rfl, rfl, rfl⟩ rfl rfl rfl rfl rfl (by kernel_rfl) Tryd.func3 (by kernel_rfl)
    (of_decide_eq_true (by kernel_rfl)) (by unfold Func.isWrapper; first | (rw [if_pos (by decide +kernel)]; kernel_rfl) | (rw [if_neg (by decide +kernel)]; exact ⟨rfl, rfl⟩))
    (fun os started H enc _ => lifted os started H enc)
/-- the tied card -/
theorem card : Rows.RiteTellsCardSaid :=
  Claim7.holds_tied_plain_at .later [] [.data, .data, .data] true (true, "2c13cc3c0be856691f46dd526740abe7bf97395facf5606fab4c993c118b1122") true
    proved (fun _ h => by cases h) (by kernel_rfl) (fun _ h => by cases h) riteTells_row_tie rfl ⟨rfl, rfl⟩ (by kernel_rfl) rfl
    (fun f fn hf hfn => by
      obtain rfl : f = 3 := Option.some.inj ((show Tryd.prog.funcNamed "timeball/timeballlaw.RiteTells" = some 3 by kernel_rfl).symm.trans hf) |>.symm
      obtain rfl : fn = Tryd.f3 := (Option.some.inj (Tryd.func3.symm.trans hfn)).symm
      exact ⟨by kernel_rfl, fun j t ht => by
        have hm := Array.mem_of_getElem? ht
        have hall : (Tryd.f3.params.toList.all fun u => !Tryd.prog.wantsStandIn u) = true := by kernel_rfl
        exact (show Tryd.prog.wantsStandIn t = false by simpa using List.all_eq_true.1 hall t (by simpa using hm))⟩)
    (by kernel_rfl)
end Go.Proofs.YtelgehpfjpbboaaDoor.riteTells
