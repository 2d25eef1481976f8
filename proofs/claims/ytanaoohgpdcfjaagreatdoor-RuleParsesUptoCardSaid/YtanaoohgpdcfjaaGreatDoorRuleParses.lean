/- The law RuleParses holds where its text has fewer than 1048576 bytes: Parse returns what the reference returns. -/
import Derived.Test.YtanaoohgpdcfjaaGreatDoorOpn
import Derived.Test.YtanaoohgpdcfjaaGreatDoorRdL
import Derived.Test.YtanaoohgpdcfjaaGreatDoorRpA
import Derived.Test.YtanaoohgpdcfjaaGreatDoorRpR
import Derived.Test.YtanaoohgpdcfjaaGreatDoorCards
import Derived.Test.YtanaoohgpdcfjaaGreatDoorTie
import Derived.LaidMore
import Derived.OpenShut
import Derived.Stop.Joined
import Derived.SevenTiedAt
import Derived.Lay
import Derived.MakeChecks
import Derived.Deep.DeepHandedRow
namespace Go.Proofs.YtanaoohgpdcfjaaGreatDoor.ruleParses
open Go.ChangeShapes Go.WideShapes Go.ChangeAt Go.RowKit
set_option linter.unusedVariables false
set_option linter.unusedSimpArgs false
set_option maxRecDepth 100000 in
theorem sp_of_laid {W : World} {r : List (String × DataW Unit)} (h : laidMet Tryz.prog (("strings.asciiSpace", Rows.laid_strings_asciiSpace) :: r) W) : Lib.TabIs Tryz.prog W "strings.asciiSpace" .u8 Lib.asciiSpaceTab :=
  Lib.tabIs_of_head (k := .u8) (zs := Lib.asciiSpaceTab) (g := 0) (n := 256) (by kernel_rfl) (by kernel_rfl) Tryz.underlying220 Tryz.underlying5 (by kernel_rfl) (by kernel_rfl) h
set_option maxRecDepth 100000 in
set_option maxHeartbeats 4000000 in
theorem walk (s : ByteArray) (w0 : s.size ≤ maxLen) (w : World) (hk : s.data.toList.length + 1 + 0 ≤ 1048576) (hSO : w.ShapedOpen Tryz.prog) (hL : laidMet Tryz.prog Rows.ruleParsesUptoRow.laid w) :
    Calls Tryz.prog 6 #[.string s] w fun e w' => e = .returned (.bool true) ∧ Below w.heap.size w w' := by
  have hs : s.size < 4294967281 := by rw [Lib.size_eq]; omega
  have es := es_of_laid (laidMet.tail (laidMet.tail (laidMet.tail (laidMet.tail (laidMet.tail hL)))))
  have er := er_of_laid (laidMet.tail (laidMet.tail (laidMet.tail (laidMet.tail hL))))
  have HT := tab_of_laid (laidMet.tail (laidMet.tail hL))
  have HP := Lib.hid (RpW.mk (RdX.mk es er (Tryz.laysM145.s1_3 w hSO)) (RdW.mk es er (fun y hy => itoa_tab w y (by omega) HT)) (trim_tab w (sp_of_laid (laidMet.tail (laidMet.tail (laidMet.tail (laidMet.tail (laidMet.tail (laidMet.tail (laidMet.tail hL))))))))))
  have z0 : ruleE ⟨#[]⟩ ⟨#[]⟩ 0 0 0 0 0 0 0 0 0 = 3 := by decide
  have HC := Lib.hid (fun (V : World) => (show Calls Tryz.prog 21 #[.agg #[.string ⟨#[]⟩, .int .i64 0, .int .i64 0, .int .i64 0, .int .i64 0, .int .i64 0, .int .i64 0, .int .i64 0, .int .i64 0, .int .i64 0, .string ⟨#[]⟩]] V fun e w' => e = .returned (.int .i64 3) ∧ Below V.heap.size V w' from by have h := u_Check ⟨#[]⟩ ⟨#[]⟩ 0 0 0 0 0 0 0 0 0 (Nat.zero_le _) (Nat.zero_le _) V; rw [z0] at h; exact h))
  clear hL hk w0 hSO es er HT z0
  go_enter Tryz.func6, Tryz.ntmps6
  go_wp2_with fail
  refine (u_Parse s hs w HP.out).mono ?_
  rintro e w1 ⟨r, er, rfl, h1, hb1⟩
  have HB := Lib.hid (hb1.alloc hb1.size (.cells (ruA r) 54))
  have HA := Lib.hid (Blk.new w1 (ruA r) 54)
  have HR := Lib.hid h1
  clear hb1 h1
  go_upto_region 2 with fail
  obtain ⟨V, hV⟩ : ∃ V, w1.alloc (.cells (ruA r) 54) = V := ⟨_, rfl⟩
  obtain ⟨g, hg⟩ : ∃ g, w1.heap.size = g := ⟨_, rfl⟩
  rw [hV] at HB HA ⊢
  rw [hg] at HA ⊢
  clear hV hg
  go_wp2_with fail
  refine (r_RuleParse s hs _).mono ?_
  rintro e w2 ⟨r2, er2, rfl, h2, hb2⟩
  obtain ⟨rfl, rfl⟩ := HR.out.one h2
  have hb3 := hb2.alloc hb2.size (.cells (ruA r) 54)
  replace HA := Lib.hid (HA.out.step hb3)
  have HD := Lib.hid (Blk.new w2 (ruA r) 54)
  replace HB := Lib.hid (HB.out.trans (hb3.mono HB.out.size))
  clear hb2 h2 HR hb3
  go_upto_region 3 with fail
  obtain ⟨V2, hV⟩ : ∃ V, w2.alloc (.cells (ruA r) 54) = V := ⟨_, rfl⟩
  obtain ⟨g2, hg⟩ : ∃ g, w2.heap.size = g := ⟨_, rfl⟩
  rw [hV] at HB HA HD ⊢
  rw [hg] at HD ⊢
  clear hV hg
  have f0 := HA.out.cell
  have fl := HA.out.lt
  have q0 := HD.out.cell
  have ql := HD.out.lt
  go_wp2_with fail
  refine (HC.out _).mono ?_
  rintro e w5 ⟨rfl, hb5⟩
  go_wp2_with fail
  go_ret
  exact ⟨ret_bool (by simp), HB.out.trans (hb5.mono HB.out.size)⟩
theorem door_met (os : Os) (args : Array Value) : laidMetH Tryz.prog Rows.ruleParsesUptoRow.laid ((World.laidAll Tryz.prog os Rows.ruleParsesUptoRow.laid).forCall (fun _ _ => 0) ⟨#[], args, []⟩).memory := by
  rw [MakeChecks.laidMetH_plain _ _ _ (by kernel_rfl)]
  exact laidMet_laidAll args (by kernel_rfl) (by kernel_rfl)
theorem reads (os : Os) {H : Type} (enc : TypeId × Value → H) : ∃ places, DataW.whole enc Tryz.prog ((World.laidAll Tryz.prog os Rows.ruleParsesUptoRow.laid).forCall (fun _ _ => 0) ⟨#[], #[.string ⟨#[]⟩], []⟩).memory Tryz.f6.params.toList Rows.ruleParsesSpec.vars false (#[.string ⟨#[]⟩] : Array Value).toList 8 = some ([.lit (.string [])], [], places) :=
  ⟨[], by kernel_rfl⟩
set_option maxRecDepth 100000 in
theorem liftedUpto (os : Os) (started : os.Started) (H : Type) (enc : TypeId × Value → H) (F : Stop.Interp) :
    ReturnsInHanded {} Tryz.checked os 6 .any ((Rows.OpenSpec.upto Rows.ruleParsesSpec).preRow enc Tryz.prog Tryz.f6 Rows.ruleParsesUptoRow.domain false Rows.ruleParsesUptoRow.laid) (((Rows.OpenSpec.upto Rows.ruleParsesSpec).at F).post enc Tryz.prog Tryz.f6 false true false false) := by
  obtain ⟨places, hx⟩ := reads os enc
  have hok : Input.okWideB Tryz.prog ((World.laidAll Tryz.prog os Rows.ruleParsesUptoRow.laid).forCall (fun _ _ => 0) ⟨#[], #[.string ⟨#[]⟩], []⟩) 6 ⟨#[], #[.string ⟨#[]⟩], []⟩ = true := by kernel_rfl
  refine returnsInHanded_of_row (C := Tryz.checked) (s := Rows.OpenSpec.upto Rows.ruleParsesSpec) own started (by kernel_rfl) Tryz.func6
    ⟨World.laidAll Tryz.prog os Rows.ruleParsesUptoRow.laid, fun _ _ => 0, ⟨#[], #[.string ⟨#[]⟩], []⟩, World.laidAll_os _ _ _, World.shaped_of_ZipB (by kernel_rfl) (by kernel_rfl), (Input.okWide_of_okWideB (base := 0) hok).1, (Input.okWide_of_okWideB hok).2,
      OpenSpec.preRow_of_cond 8 hx (by kernel_rfl) (fun k hk => by cases hk; kernel_rfl) (by kernel_rfl) (door_met os _), by
        simp only [Assume.holds]
        exact ⟨by simp, by simp, fun _ => Modest.zero, by simp, by simp⟩⟩ ?_
  intro W base args ds gs before hval0 hW _ hcond _ hL hSO _
  rw [MakeChecks.laidMetH_plain _ _ _ (by kernel_rfl)] at hL
  have hk0 := of_decide_eq_true (hcond _ rfl)
  have hval : ∀ (j : Nat) t v, Tryz.f6.params[j]? = some t → args[j]? = some v → Value.okWide Tryz.prog W .any base t v := hval0
  have hW' := hW
  have hltW : ∀ x ∈ before, x.block < W.heap.size := fun x hx => by simpa using hW.lt x hx
  obtain ⟨p, q, hA0, hV, rfl, hfz, hnd⟩ := hW
  have hlt : ∀ x ∈ p, x.block < W.heap.size := fun x hx => hltW x (by simp [hx])
  clear hltW
  have hA : DataW.TrodAll enc Tryz.prog W 0 (fun _ => true) true Tryz.f6.params.toList args.toList ds p := hA0
  rw [Tryz.params6] at hA hval
  obtain ⟨v0, vs0, d0, ds0, p0, q0, hargs, rfl, rfl, h0, r0⟩ := trodAll_cons hA
  obtain ⟨rfl, rfl, rfl⟩ := trodAll_nil r0
  obtain rfl : args = #[v0] := by cases args; simp_all
  obtain ⟨rfl, rfl⟩ := trodVars_none hV
  obtain ⟨a0, rfl, rfl, rfl, w0⟩ := Go.ChangeMaps.open_string Tryz.underlying9 (hval 0 9 v0 rfl rfl) h0
  have hk : Rows.uptoBulkAll _ ≤ 1048576 := hk0
  simp only [List.append_nil, Rows.uptoBulkAll, Rows.uptoBulk] at hk
  clear hA0 hval0
  refine (walk a0 w0 W hk hSO hL).mono fun e W' ⟨he, hg⟩ => ?_
  subst he
  exact ⟨_, rfl, law_post rfl hW' rfl rfl rfl rfl (by rw [Tryz.params6]; decide +kernel) hg⟩

/-- the statement -/
theorem provedUpto : Rows.RuleParsesUptoSaid :=
  OpenClaim.holds_of_cond 6 Tryz.f6 rfl rfl rfl rfl rfl rfl rfl ⟨rfl, rfl, rfl, rfl, rfl⟩ rfl rfl rfl rfl rfl (by kernel_rfl) Tryz.func6 (by kernel_rfl)
    (of_decide_eq_true (by kernel_rfl)) (by unfold Func.isWrapper; first | (rw [if_pos (by decide +kernel)]; kernel_rfl) | (rw [if_neg (by decide +kernel)]; exact ⟨rfl, rfl⟩))
    (fun os started H enc _ F => by rw [OpenClaim.pre_eq_preRow]; exact liftedUpto os started H enc F)
/-- the tied card -/
theorem cardUpto : Rows.RuleParsesUptoCardSaid :=
  Claim7.holds_tied_plain_at .later [] _ _ _ _
    provedUpto (fun _ h => by cases h) (by kernel_rfl) (fun _ h => by cases h) ruleParsesUpto_row_tie rfl ⟨rfl, rfl⟩ (by kernel_rfl) rfl
    (fun f fn hf hfn => by
      obtain rfl : f = 6 := Option.some.inj ((show Tryz.prog.funcNamed "timeball/timeballlaw.RuleParses" = some 6 by kernel_rfl).symm.trans hf) |>.symm
      obtain rfl : fn = Tryz.f6 := (Option.some.inj (Tryz.func6.symm.trans hfn)).symm
      exact ⟨by kernel_rfl, fun j t ht => by
        have hm := Array.mem_of_getElem? ht
        have hall : (Tryz.f6.params.toList.all fun u => !Tryz.prog.wantsStandIn u) = true := by kernel_rfl
        exact (show Tryz.prog.wantsStandIn t = false by simpa using List.all_eq_true.1 hall t (by simpa using hm))⟩)
    (by kernel_rfl)
end Go.Proofs.YtanaoohgpdcfjaaGreatDoor.ruleParses
