/- The law RuleTells holds at every input: Text returns what the reference returns. No condition. -/
import Derived.Test.YtoakagkphkgcdaaDoorOpn
import Derived.Test.YtoakagkphkgcdaaDoorDoorK
import Derived.Test.YtoakagkphkgcdaaDoorRxA
import Derived.Test.YtoakagkphkgcdaaDoorRxR
import Derived.Test.YtoakagkphkgcdaaDoorCards
import Derived.Test.YtoakagkphkgcdaaDoorTie
import Derived.LaidMore
import Derived.OpenShut
import Derived.Stop.Joined
import Derived.SevenTiedAt
import Derived.Lay
import Derived.MakeChecks
namespace Go.Proofs.YtoakagkphkgcdaaDoor.ruleTells
open Go.ChangeShapes Go.WideShapes Go.ChangeAt Go.RowKit
set_option linter.unusedVariables false
set_option linter.unusedSimpArgs false
attribute [local go_sem ↓] Go.wp_at_zero Go.wp_at_succ
set_option maxRecDepth 100000 in
theorem sp_of_laid {W : World} {r : List (String × DataW Unit)} (h : laidMet Tryd.prog (("strings.asciiSpace", Rows.laid_strings_asciiSpace) :: r) W) : Lib.TabIs Tryd.prog W "strings.asciiSpace" .u8 Lib.asciiSpaceTab :=
  Lib.tabIs_of_head (k := .u8) (zs := Lib.asciiSpaceTab) (g := 0) (n := 256) (by kernel_rfl) (by kernel_rfl) Tryd.underlying96 Tryd.underlying5 (by kernel_rfl) (by kernel_rfl) h
set_option maxRecDepth 100000 in
set_option maxHeartbeats 4000000 in
theorem walk (name : ByteArray) (f t m k wd n a b sv : Int) (letter : ByteArray) (hn : name.size ≤ maxLen) (hl : letter.size ≤ maxLen) (w : World) (hL : laidMet Tryd.prog Rows.ruleTellsRow.laid w) :
    Calls Tryd.prog 4 #[.agg #[.string name, .int .i64 f, .int .i64 t, .int .i64 m, .int .i64 k, .int .i64 wd, .int .i64 n, .int .i64 a, .int .i64 b, .int .i64 sv, .string letter]] w
      fun e w' => e = .returned (.bool true) ∧ Below w.heap.size w w' := by
  have z0 : ruleE ⟨#[]⟩ ⟨#[]⟩ 0 0 0 0 0 0 0 0 0 = 3 := by decide
  have HT := tab_of_laid (laidMet.tail (laidMet.tail hL))
  have HI : ∀ y : Nat, y < 10000 → ItoaIn w y := fun y hy => itoa_tab w y (by omega) HT
  have HR1 : TrimIn w := trim_tab w (sp_of_laid (laidMet.tail (laidMet.tail (laidMet.tail (laidMet.tail (laidMet.tail hL))))))
  have HK := Lib.hid (fun (V : World) (hb : Below w.heap.size w V) => u_Text name letter f t m k wd n a b sv hn hl V (fun y hy => (HI y hy).on hb) (HR1.on hb))
  have HR := Lib.hid (fun (V : World) => r_RuleText name letter f t m k wd n a b sv hn hl V)
  have HC := Lib.hid (fun (V : World) => u_Check ⟨#[]⟩ ⟨#[]⟩ 0 0 0 0 0 0 0 0 0 (Nat.zero_le _) (Nat.zero_le _) V)
  rw [z0] at HC
  have X1 := TK.box w #[.string name, .int .i64 f, .int .i64 t, .int .i64 m, .int .i64 k, .int .i64 wd, .int .i64 n, .int .i64 a, .int .i64 b, .int .i64 sv, .string letter] 36
  have hcs := X1.1
  have hcz := X1.2.1
  have HB0 := Lib.hid X1.2.2
  clear X1 HT HI HR1 hL z0
  obtain ⟨TX, hTX⟩ : ∃ x, rxV name letter f t m k wd n a b sv = x := ⟨_, rfl⟩
  obtain ⟨TE, hTE⟩ : ∃ x, ruleE name letter f t m k wd n a b sv = x := ⟨_, rfl⟩
  simp only [hTX, hTE] at HK HR
  clear hTX hTE
  go_enter Tryd.func4, Tryd.ntmps4
  go_wp2_with fail
  refine (HK.out _ HB0.out).mono ?_
  rintro e w1 ⟨rfl, hb1⟩
  have c1 := fun i => (hb1.cell (p := ⟨w.heap.size, i, none⟩) hcz).trans (hcs i)
  have n1 := Nat.lt_of_lt_of_le hcz hb1.size
  have HB1 := Lib.hid (HB0.out.trans (hb1.mono HB0.out.size))
  clear hcs hcz hb1 HB0 HK
  go_wp2_with fail
  refine (HR.out w1).mono ?_
  rintro e w2 ⟨rfl, hb2⟩
  have HB2 := Lib.hid (HB1.out.trans (hb2.mono HB1.out.size))
  clear c1 n1 hb2 HB1 HR
  go_wp2_with (go_at_call 10; refine (HC.out _).mono ?_; rintro e w5 ⟨rfl, hb5⟩)
  go_ret
  exact ⟨rfl, HB2.out.trans (hb5.mono HB2.out.size)⟩

theorem door_met (os : Os) (args : Array Value) : laidMetH Tryd.prog Rows.ruleTellsRow.laid ((World.laidAll Tryd.prog os Rows.ruleTellsRow.laid).forCall (fun _ _ => 0) ⟨#[], args, []⟩).memory := by
  rw [MakeChecks.laidMetH_plain _ _ _ (by kernel_rfl)]
  exact laidMet_laidAll args (by kernel_rfl) (by kernel_rfl)
set_option maxRecDepth 100000 in
theorem lifted (os : Os) (started : os.Started) (H : Type) (enc : TypeId × Value → H) :
    ReturnsInHanded {} Tryd.checked os 4 .any (fun w args => (Rows.ruleTellsSpec.pre enc Tryd.prog Tryd.f4 [] false w args ∧ laidMetH Tryd.prog Rows.ruleTellsRow.laid w) ∧ sizedMet enc Tryd.prog Tryd.f4 (OpenSpec.ofChange Rows.ruleTellsSpec) false w args)
      (Rows.ruleTellsSpec.post enc Tryd.prog Tryd.f4 false true false false) := by
  refine returnsInHanded_of_change_and (C := Tryd.checked) (X := fun w _ => laidMetH Tryd.prog Rows.ruleTellsRow.laid w) (fun _ _ _ hh h => h.of_heap hh) own started (by kernel_rfl) Tryd.func4
    (ChangeSpec.witness_shaped (enc := enc) (C := Tryd.checked) (os := os) (X := fun w _ => laidMetH Tryd.prog Rows.ruleTellsRow.laid w) false (World.laidAll Tryd.prog os Rows.ruleTellsRow.laid) #[.agg #[.string ⟨#[]⟩, .int .i64 0, .int .i64 0, .int .i64 0, .int .i64 0, .int .i64 0, .int .i64 0, .int .i64 0, .int .i64 0, .int .i64 0, .string ⟨#[]⟩]] 8 (World.laidAll_os _ _ _) (World.shaped_of_ZipB (by kernel_rfl) (by kernel_rfl)) (by kernel_rfl) (by kernel_rfl) (by kernel_rfl) (door_met os _)) ?_
  intro W base args ds gs before hval0 hW _ _ hL _
  rw [MakeChecks.laidMetH_plain _ _ _ (by kernel_rfl)] at hL
  have hval : ∀ (j : Nat) t v, Tryd.f4.params[j]? = some t → args[j]? = some v → Value.okWide Tryd.prog W .any base t v := hval0
  have hW' := hW
  have hltW : ∀ x ∈ before, x.block < W.heap.size := fun x hx => by simpa using hW.lt x hx
  obtain ⟨p, q, hA0, hV, rfl, hfz, hnd⟩ := hW
  have hlt : ∀ x ∈ p, x.block < W.heap.size := fun x hx => hltW x (by simp [hx])
  clear hltW
  have hA : DataW.TrodAll enc Tryd.prog W 0 (fun _ => true) true Tryd.f4.params.toList args.toList ds p := hA0
  rw [Tryd.params4] at hA hval
  obtain ⟨v0, vs0, d0, ds0, p0, q0, hargs, rfl, rfl, h0, r0⟩ := trodAll_cons hA
  obtain ⟨rfl, rfl, rfl⟩ := trodAll_nil r0
  obtain rfl : args = #[v0] := by cases args; simp_all
  obtain ⟨rfl, rfl⟩ := trodVars_none hV
  obtain ⟨name0, f0, t0, m0, onk0, onwd0, onn0, a0, b0, sv0, letter0, rfl, wi_f0, wi_t0, wi_m0, wi_onk0, wi_onwd0, wi_onn0, wi_a0, wi_b0, wi_sv0, ws_name0, ws_letter0⟩ := val_rule (hval 0 36 v0 rfl rfl) h0
  clear hA0 hval0
  refine (walk name0 f0 t0 m0 onk0 onwd0 onn0 a0 b0 sv0 letter0 ws_name0 ws_letter0 W hL).mono fun e W' ⟨he, hg⟩ => ?_
  subst he
  exact ⟨_, rfl, law_post rfl hW' rfl rfl rfl rfl (by rw [Tryd.params4]; decide +kernel) hg⟩

/-- the statement -/
theorem proved : Rows.RuleTellsSaid :=
  OpenClaim.holds_of_wide 4 Tryd.f4 rfl rfl rfl rfl rfl rfl rfl ⟨rfl, rfl, rfl, rfl, rfl⟩ rfl rfl rfl rfl rfl (by kernel_rfl) Tryd.func4 (by kernel_rfl)
    (of_decide_eq_true (by kernel_rfl)) (by unfold Func.isWrapper; first | (rw [if_pos (by decide +kernel)]; kernel_rfl) | (rw [if_neg (by decide +kernel)]; exact ⟨rfl, rfl⟩))
    (fun os started H enc _ => lifted os started H enc)
/-- the tied card -/
theorem card : Rows.RuleTellsCardSaid :=
  Claim7.holds_tied_plain_at .later [] [.data, .data, .data, .data, .listed, .data, .pinned] true (true, "a0dbecb91f1470c4ebc5db8fbb74cc3e398332df58a112a40a711063ba3ed9ee") false
    proved (fun _ h => by cases h) (by kernel_rfl) (fun _ h => by cases h) ruleTells_row_tie rfl ⟨rfl, rfl⟩ (by kernel_rfl) rfl
    (fun f fn hf hfn => by
      obtain rfl : f = 4 := Option.some.inj ((show Tryd.prog.funcNamed "timeball/timeballlaw.RuleTells" = some 4 by kernel_rfl).symm.trans hf) |>.symm
      obtain rfl : fn = Tryd.f4 := (Option.some.inj (Tryd.func4.symm.trans hfn)).symm
      exact ⟨by kernel_rfl, fun j t ht => by
        have hm := Array.mem_of_getElem? ht
        have hall : (Tryd.f4.params.toList.all fun u => !Tryd.prog.wantsStandIn u) = true := by kernel_rfl
        exact (show Tryd.prog.wantsStandIn t = false by simpa using List.all_eq_true.1 hall t (by simpa using hm))⟩)
    (by kernel_rfl)
end Go.Proofs.YtoakagkphkgcdaaDoor.ruleTells
