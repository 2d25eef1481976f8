/- The law BookTells holds at every input: Text returns what the reference returns. No condition. -/
import Derived.Test.YtoakagkphkgcdaaGreatDoorOpn
import Derived.Test.YtoakagkphkgcdaaGreatDoorDoorK
import Derived.Test.YtoakagkphkgcdaaGreatDoorOpenBk
import Derived.Test.YtoakagkphkgcdaaGreatDoorBtA
import Derived.Test.YtoakagkphkgcdaaGreatDoorBtR
import Derived.Test.YtoakagkphkgcdaaGreatDoorCards
import Derived.Test.YtoakagkphkgcdaaGreatDoorTie
import Derived.LaidMore
import Derived.OpenShut
import Derived.Stop.Joined
import Derived.SevenTiedAt
import Derived.Lay
import Derived.MakeChecks
namespace Go.Proofs.YtoakagkphkgcdaaGreatDoor.bookTells
open Go.ChangeShapes Go.WideShapes Go.ChangeAt Go.RowKit
set_option linter.unusedVariables false
set_option linter.unusedSimpArgs false
attribute [local go_sem ↓] Go.wp_at_zero Go.wp_at_succ
set_option maxRecDepth 100000 in
theorem sp_of_laid {W : World} {r : List (String × DataW Unit)} (h : laidMet Tryz.prog (("strings.asciiSpace", Rows.laid_strings_asciiSpace) :: r) W) : Lib.TabIs Tryz.prog W "strings.asciiSpace" .u8 Lib.asciiSpaceTab :=
  Lib.tabIs_of_head (k := .u8) (zs := Lib.asciiSpaceTab) (g := 0) (n := 256) (by kernel_rfl) (by kernel_rfl) Tryz.underlying154 Tryz.underlying5 (by kernel_rfl) (by kernel_rfl) h
set_option maxRecDepth 100000 in
set_option maxHeartbeats 4000000 in
theorem walk' (AR AZ AL : Option Addr) (cR cZ cL : Nat) (rs : List RuT) (zs : List ZoT) (ls : List LkT) (w : World) (H : BkOk w w.heap.size ⟨AR, AZ, AL, cR, cZ, cL, rs, zs, ls⟩) (HI : EraIn w) (HT : TrimIn w) :
    Calls Tryz.prog 5 #[.agg #[.slice AR rs.length cR, .slice AZ zs.length cZ, .slice AL ls.length cL]] w fun e w' => e = .returned (.bool true) ∧ Below w.heap.size w w' := by
  have z0 : abE ⟨#[]⟩ 0 ⟨#[45]⟩ = 3 := by decide
  have HA := Lib.hid (fun (V : World) => b_Abbr ⟨#[]⟩ ⟨#[45]⟩ 0 dash_sz V)
  rw [z0] at HA
  obtain ⟨X, n, HK, HR⟩ : ∃ (X : ByteArray) (n : Int), Hid (∀ V, Below w.heap.size w V → Calls Tryz.prog 12 #[.agg #[.slice AR rs.length cR, .slice AZ zs.length cZ, .slice AL ls.length cL]] V fun e w' => e = .returned (.tuple #[.string X, .int .i64 n]) ∧ Below V.heap.size V w') ∧
      Hid (∀ V, Below w.heap.size w V → Calls Tryz.prog 13 #[.agg #[.slice AR rs.length cR, .slice AZ zs.length cZ, .slice AL ls.length cL]] V fun e w' => e = .returned (.tuple #[.string X, .int .i64 n]) ∧ Below V.heap.size V w') := by
    by_cases h : bookE rs zs ls = 0
    · exact ⟨_, _, Lib.hid (fun V hb => k_Text_ok AR AZ AL cR cZ cL rs zs ls V (H.step hb) (HI.on hb) (HT.on hb) h), Lib.hid (fun V hb => r_BookText_ok AR AZ AL cR cZ cL rs zs ls V (H.step hb) h)⟩
    · exact ⟨_, _, Lib.hid (fun V hb => k_Text_no AR AZ AL cR cZ cL rs zs ls V (H.step hb) (HI.on hb) (HT.on hb) _ rfl h), Lib.hid (fun V hb => r_BookText_no AR AZ AL cR cZ cL rs zs ls V (H.step hb) _ rfl h)⟩
  have hb0 := (Below.refl w.heap.size w).alloc (Nat.le_refl _) (.cells #[.slice AR rs.length cR, .slice AZ zs.length cZ, .slice AL ls.length cL] 26)
  have k0 := Blk.new w #[.slice AR rs.length cR, .slice AZ zs.length cZ, .slice AL ls.length cL] 26
  obtain ⟨W1, hW1⟩ : ∃ W1, w.alloc (.cells #[.slice AR rs.length cR, .slice AZ zs.length cZ, .slice AL ls.length cL] 26) = W1 := ⟨_, rfl⟩
  rw [hW1] at hb0 k0
  have HK0 := Lib.hid k0
  have HB0 := Lib.hid hb0
  have kb := HK0.out.cell
  clear H HI HT hb0 k0 z0
  go_enter Tryz.func5, Tryz.ntmps5
  go_wp2_with fail
  refine (HK.out W1 HB0.out).mono ?_
  rintro e w2 ⟨rfl, hb2⟩
  have HK2 := Lib.hid (HK0.out.step hb2)
  have HB2 := Lib.hid (HB0.out.trans (hb2.mono HB0.out.size))
  clear hb2 kb HB0 HK0 HK hW1
  have kb := HK2.out.cell
  go_wp2_with fail
  refine (HR.out w2 HB2.out).mono ?_
  rintro e w3 ⟨rfl, hb3⟩
  have HB3 := Lib.hid (HB2.out.trans (hb3.mono HB2.out.size))
  clear hb3 kb HB2 HK2 HR
  go_wp2_with fail
  refine (HA.out w3).mono ?_
  rintro e w4 ⟨rfl, hb4⟩
  go_wp2_with fail
  go_ret
  exact ⟨rfl, HB3.out.trans (hb4.mono HB3.out.size)⟩
theorem walk (D : BkD) (w : World) (HB : BkOk w w.heap.size D) (hL : laidMet Tryz.prog Rows.bookTellsRow.laid w) :
    Calls Tryz.prog 5 #[.agg D.v] w fun e w' => e = .returned (.bool true) ∧ Below w.heap.size w w' := by
  have HT := tab_of_laid (laidMet.tail (laidMet.tail hL))
  exact walk' D.AR D.AZ D.AL D.cR D.cZ D.cL D.rs D.zs D.ls w HB (fun y hy => itoa_tab w y (by omega) HT) (trim_tab w (sp_of_laid (laidMet.tail (laidMet.tail (laidMet.tail (laidMet.tail (laidMet.tail hL)))))))

theorem door_met (os : Os) (args : Array Value) : laidMetH Tryz.prog Rows.bookTellsRow.laid ((World.laidAll Tryz.prog os Rows.bookTellsRow.laid).forCall (fun _ _ => 0) ⟨#[], args, []⟩).memory := by
  rw [MakeChecks.laidMetH_plain _ _ _ (by kernel_rfl)]
  exact laidMet_laidAll args (by kernel_rfl) (by kernel_rfl)
set_option maxRecDepth 100000 in
theorem lifted (os : Os) (started : os.Started) (H : Type) (enc : TypeId × Value → H) :
    ReturnsInHanded {} Tryz.checked os 5 .any (fun w args => (Rows.bookTellsSpec.pre enc Tryz.prog Tryz.f5 [] false w args ∧ laidMetH Tryz.prog Rows.bookTellsRow.laid w) ∧ sizedMet enc Tryz.prog Tryz.f5 (OpenSpec.ofChange Rows.bookTellsSpec) false w args)
      (Rows.bookTellsSpec.post enc Tryz.prog Tryz.f5 false true false false) := by
  refine returnsInHanded_of_change_and (C := Tryz.checked) (X := fun w _ => laidMetH Tryz.prog Rows.bookTellsRow.laid w) (fun _ _ _ hh h => h.of_heap hh) own started (by kernel_rfl) Tryz.func5
    (ChangeSpec.witness_shaped (enc := enc) (C := Tryz.checked) (os := os) (X := fun w _ => laidMetH Tryz.prog Rows.bookTellsRow.laid w) false (World.laidAll Tryz.prog os Rows.bookTellsRow.laid) #[.agg #[.slice none 0 0, .slice none 0 0, .slice none 0 0]] 8 (World.laidAll_os _ _ _) (World.shaped_of_ZipB (by kernel_rfl) (by kernel_rfl)) (by kernel_rfl) (by kernel_rfl) (by kernel_rfl) (door_met os _)) ?_
  intro W base args ds gs before hval0 hW _ _ hL _
  rw [MakeChecks.laidMetH_plain _ _ _ (by kernel_rfl)] at hL
  have hval : ∀ (j : Nat) t v, Tryz.f5.params[j]? = some t → args[j]? = some v → Value.okWide Tryz.prog W .any base t v := hval0
  have hW' := hW
  have hltW : ∀ x ∈ before, x.block < W.heap.size := fun x hx => by simpa using hW.lt x hx
  obtain ⟨p, q, hA0, hV, rfl, hfz, hnd⟩ := hW
  have hlt : ∀ x ∈ p, x.block < W.heap.size := fun x hx => hltW x (by simp [hx])
  clear hltW
  have hA : DataW.TrodAll enc Tryz.prog W 0 (fun _ => true) true Tryz.f5.params.toList args.toList ds p := hA0
  rw [Tryz.params5] at hA hval
  obtain ⟨v0, vs0, d0, ds0, p0, q0, hargs, rfl, rfl, h0, r0⟩ := trodAll_cons hA
  obtain ⟨rfl, rfl, rfl⟩ := trodAll_nil r0
  obtain rfl : args = #[v0] := by cases args; simp_all
  obtain ⟨rfl, rfl⟩ := trodVars_none hV
  obtain ⟨D0, rfl, HB0⟩ := val_book (hval 0 26 v0 rfl rfl) h0
  clear hA0 hval0
  refine (walk D0 W HB0 hL).mono fun e W' ⟨he, hg⟩ => ?_
  subst he
  exact ⟨_, rfl, law_post rfl hW' rfl rfl rfl rfl (by rw [Tryz.params5]; decide +kernel) hg⟩

/-- the statement -/
theorem proved : Rows.BookTellsSaid :=
  OpenClaim.holds_of_wide 5 Tryz.f5 rfl rfl rfl rfl rfl rfl rfl ⟨rfl, rfl, rfl, rfl, rfl⟩ rfl rfl rfl rfl rfl (by kernel_rfl) Tryz.func5 (by kernel_rfl)
    (of_decide_eq_true (by kernel_rfl)) (by unfold Func.isWrapper; first | (rw [if_pos (by decide +kernel)]; kernel_rfl) | (rw [if_neg (by decide +kernel)]; exact ⟨rfl, rfl⟩))
    (fun os started H enc _ => lifted os started H enc)
/-- the tied card -/
theorem card : Rows.BookTellsCardSaid :=
  Claim7.holds_tied_plain_at .later [] [.data, .data, .data, .data, .listed, .data, .pinned] true (true, "9ed2c5c9377a4c763cae2a3263836751453417f2e28255635243d6d33a450761") false
    proved (fun _ h => by cases h) (by kernel_rfl) (fun _ h => by cases h) bookTells_row_tie rfl ⟨rfl, rfl⟩ (by kernel_rfl) rfl
    (fun f fn hf hfn => by
      obtain rfl : f = 5 := Option.some.inj ((show Tryz.prog.funcNamed "timeball/timeballlaw.BookTells" = some 5 by kernel_rfl).symm.trans hf) |>.symm
      obtain rfl : fn = Tryz.f5 := (Option.some.inj (Tryz.func5.symm.trans hfn)).symm
      exact ⟨by kernel_rfl, fun j t ht => by
        have hm := Array.mem_of_getElem? ht
        have hall : (Tryz.f5.params.toList.all fun u => !Tryz.prog.wantsStandIn u) = true := by kernel_rfl
        exact (show Tryz.prog.wantsStandIn t = false by simpa using List.all_eq_true.1 hall t (by simpa using hm))⟩)
    (by kernel_rfl)
end Go.Proofs.YtoakagkphkgcdaaGreatDoor.bookTells
