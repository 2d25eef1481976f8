/- The law BackYears holds at every input: Years returns what the reference returns. No condition. -/
import Derived.Test.YtgnodiegippkeaaDoorLawKit
import Derived.Test.YtgnodiegippkeaaDoorOpenTu
import Derived.Test.YtgnodiegippkeaaDoorByA
import Derived.Test.YtgnodiegippkeaaDoorByR
import Derived.Test.YtgnodiegippkeaaDoorBbZ
import Derived.Test.YtgnodiegippkeaaDoorCards
import Derived.Test.YtgnodiegippkeaaDoorTie
import Derived.LaidMore
import Derived.OpenShut
import Derived.Stop.Joined
import Derived.SevenTiedAt
import Derived.Lay
import Derived.MakeChecks
namespace Go.Proofs.YtgnodiegippkeaaDoor.backYears
open Go.ChangeShapes Go.WideShapes Go.ChangeAt Go.RowKit
set_option linter.unusedVariables false
set_option maxRecDepth 100000 in
set_option maxHeartbeats 4000000 in
theorem walk (A : Option Addr) (cap : Nat) (l : List TuT) (w : World) (hA : SlAt w w.heap.size 3 A (l.map tuCells)) (h1 : l.length ≤ cap) (m1 : cap ≤ maxLen) (hn : ∀ t ∈ l, t.2.2.size ≤ maxLen) (hw : ∀ t ∈ l, -9223372036854775808 ≤ t.1 ∧ t.1 ≤ 9223372036854775807) :
    Calls Tryd.prog 5 #[.slice A l.length cap] w fun e w' => e = .returned (.bool true) ∧ Below w.heap.size w w' := by
  have HI := Lib.hid (i_Years A cap l w hA h1 m1 hn hw)
  have HR := Lib.hid (fun W (hb : Below w.heap.size w W) => r_BackYears A cap l W ((hA.below hb).more hb.size) h1 m1 hn hw)
  clear hA hn hw
  go_enter Tryd.func5, Tryd.ntmps5
  go_wp2_with fail
  refine (show Calls Tryd.prog _ _ _ _ from HI.out).mono ?_
  rintro e w1 ⟨A1, c1, rfl, hS1, g1, m2, hb1⟩
  have HS1 := Lib.hid hS1
  clear hS1
  go_wp2_with fail
  refine (show Calls Tryd.prog _ _ _ _ from HR.out _ hb1).mono ?_
  rintro e w2 ⟨A2, c2, rfl, hS2, g2, m3, hb⟩
  have HS2 := Lib.hid hS2
  have hb2 := hb1.trans (hb.mono hb1.size)
  have HS1' := Lib.hid ((HS1.out.below hb).more hb.size)
  clear hS2 hb
  go_wp2_with fail
  refine (b_Book_zero _ _).mono ?_
  rintro e w3 ⟨rfl, hb⟩
  have hb3 := hb2.trans (hb.mono hb2.size)
  have HS1'' := Lib.hid ((HS1'.out.below hb).more hb.size)
  have HS2' := Lib.hid ((HS2.out.below hb).more hb.size)
  have ha : Below w3.heap.size w3 (w3.alloc (.cells #[.slice none 0 0, .slice none 0 0, .slice none 0 0] 37)) := (by repeat (first | exact Below.refl _ _ | assumption | apply Below.drew | apply below_drewN | (refine Below.alloc ?_ (by simp; try omega) _) | (refine Below.setCell ?_ (by simp; try omega) _)))
  have hb4 := hb3.trans (ha.mono hb3.size)
  have HE := Lib.hid (r_EqRule A1 A2 c1 c2 (byRs l) _ ((HS1''.out.below ha).more ha.size) ((HS2'.out.below ha).more ha.size) g1 g2 m2 m3)
  clear hb ha
  go_wp2_with fail
  refine (show Calls Tryd.prog _ _ _ _ from HE.out).mono ?_
  rintro e w4 ⟨rfl, hb⟩
  go_wp2_with fail
  go_ret
  exact ⟨ret_bool (by simp), hb4.trans (hb.mono hb4.size)⟩

theorem door_met (os : Os) (args : Array Value) : laidMetH Tryd.prog Rows.backYearsRow.laid ((World.laidAll Tryd.prog os Rows.backYearsRow.laid).forCall (fun _ _ => 0) ⟨#[], args, []⟩).memory := by
  rw [MakeChecks.laidMetH_plain _ _ _ (by kernel_rfl)]
  exact laidMet_laidAll args (by kernel_rfl) (by kernel_rfl)
set_option maxRecDepth 100000 in
theorem lifted (os : Os) (started : os.Started) (H : Type) (enc : TypeId × Value → H) :
    ReturnsInHanded {} Tryd.checked os 5 .any (fun w args => (Rows.backYearsSpec.pre enc Tryd.prog Tryd.f5 [] false w args ∧ laidMetH Tryd.prog Rows.backYearsRow.laid w) ∧ sizedMet enc Tryd.prog Tryd.f5 (OpenSpec.ofChange Rows.backYearsSpec) false w args)
      (Rows.backYearsSpec.post enc Tryd.prog Tryd.f5 false true false false) := by
  refine returnsInHanded_of_change_and (C := Tryd.checked) (X := fun w _ => laidMetH Tryd.prog Rows.backYearsRow.laid w) (fun _ _ _ hh h => h.of_heap hh) own started (by kernel_rfl) Tryd.func5
    (ChangeSpec.witness_shaped (enc := enc) (C := Tryd.checked) (os := os) (X := fun w _ => laidMetH Tryd.prog Rows.backYearsRow.laid w) false (World.laidAll Tryd.prog os Rows.backYearsRow.laid) #[.slice none 0 0] 8 (World.laidAll_os _ _ _) (World.shaped_of_ZipB (by kernel_rfl) (by kernel_rfl)) (by kernel_rfl) (by kernel_rfl) (by kernel_rfl) (door_met os _)) ?_
  intro W base args ds gs before hval0 hW _ _ hL _
  rw [MakeChecks.laidMetH_plain _ _ _ (by kernel_rfl)] at hL
  have hval : ∀ (j : Nat) t v, Tryd.f5.params[j]? = some t → args[j]? = some v → Value.okWide Tryd.prog W .any base t v := hval0
  have hW' := hW
  have hltW : ∀ x ∈ before, x.block < W.heap.size := fun x hx => by simpa using hW.lt x hx
  obtain ⟨p, q, hA0, hV, rfl, hfz, hnd⟩ := hW
  have hlt : ∀ x ∈ p, x.block < W.heap.size := fun x hx => hltW x (by simp [hx])
  clear hltW
  have hA : DataW.TrodAll enc Tryd.prog W 0 (fun _ => true) true Tryd.f5.params.toList args.toList ds p := hA0
  rw [Tryd.params5] at hA hval
  obtain ⟨v0, vs0, d0, ds0, p0, q0, hargs, rfl, rfl, h0, r0⟩ := trodAll_cons hA
  obtain ⟨rfl, rfl, rfl⟩ := trodAll_nil r0
  obtain rfl : args = #[v0] := by cases args; simp_all
  obtain ⟨rfl, rfl⟩ := trodVars_none hV
  obtain ⟨A0, c0, l0, rfl, g0, m0, HS0, hn0, hw0⟩ := val_turns (hval 0 42 v0 rfl rfl) h0
  clear hA0 hval0
  refine (walk A0 c0 l0 W HS0 g0 m0 hn0 hw0).mono fun e W' ⟨he, hg⟩ => ?_
  subst he
  exact ⟨_, rfl, law_post rfl hW' rfl rfl rfl rfl (by rw [Tryd.params5]; decide +kernel) hg⟩

/-- the statement -/
theorem proved : Rows.BackYearsSaid :=
  OpenClaim.holds_of_wide 5 Tryd.f5 rfl rfl rfl rfl rfl rfl rfl ⟨rfl, rfl, rfl, rfl, rfl⟩ rfl rfl rfl rfl rfl (by kernel_rfl) Tryd.func5 (by kernel_rfl)
    (of_decide_eq_true (by kernel_rfl)) (by unfold Func.isWrapper; first | (rw [if_pos (by decide +kernel)]; kernel_rfl) | (rw [if_neg (by decide +kernel)]; exact ⟨rfl, rfl⟩))
    (fun os started H enc _ => lifted os started H enc)
/-- the tied card -/
theorem card : Rows.BackYearsCardSaid :=
  Claim7.holds_tied_plain_at .later [] [.data, .data, .data] true (true, "c71649c597e1c479033fef8f3d6ecf93281434b16a692017f2104fe1e57d9f6c") false
    proved (fun _ h => by cases h) (by kernel_rfl) (fun _ h => by cases h) backYears_row_tie rfl ⟨rfl, rfl⟩ (by kernel_rfl) rfl
    (fun f fn hf hfn => by
      obtain rfl : f = 5 := Option.some.inj ((show Tryd.prog.funcNamed "timeball/timeballlaw.BackYears" = some 5 by kernel_rfl).symm.trans hf) |>.symm
      obtain rfl : fn = Tryd.f5 := (Option.some.inj (Tryd.func5.symm.trans hfn)).symm
      exact ⟨by kernel_rfl, fun j t ht => by
        have hm := Array.mem_of_getElem? ht
        have hall : (Tryd.f5.params.toList.all fun u => !Tryd.prog.wantsStandIn u) = true := by kernel_rfl
        exact (show Tryd.prog.wantsStandIn t = false by simpa using List.all_eq_true.1 hall t (by simpa using hm))⟩)
    (by kernel_rfl)
end Go.Proofs.YtgnodiegippkeaaDoor.backYears
