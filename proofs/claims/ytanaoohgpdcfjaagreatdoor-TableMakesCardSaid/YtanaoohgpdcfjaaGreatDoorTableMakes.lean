/- The law TableMakes holds at every input: Make returns what the reference returns. No condition. -/
import Derived.Test.YtanaoohgpdcfjaaGreatDoorOpn
import Derived.Test.YtanaoohgpdcfjaaGreatDoorDoorK
import Derived.Test.YtanaoohgpdcfjaaGreatDoorOpenBk
import Derived.Test.YtanaoohgpdcfjaaGreatDoorXTbQ
import Derived.Test.YtanaoohgpdcfjaaGreatDoorTmC
import Derived.Test.YtanaoohgpdcfjaaGreatDoorTmE
import Derived.Test.YtanaoohgpdcfjaaGreatDoorCards
import Derived.Test.YtanaoohgpdcfjaaGreatDoorTie
import Derived.LaidMore
import Derived.OpenShut
import Derived.Stop.Joined
import Derived.SevenTiedAt
import Derived.Lay
import Derived.MakeChecks
namespace Go.Proofs.YtanaoohgpdcfjaaGreatDoor.tableMakes
open Go.ChangeShapes Go.WideShapes Go.ChangeAt Go.RowKit
set_option linter.unusedVariables false
set_option linter.unusedSimpArgs false
attribute [local go_sem ↓] Go.wp_at_zero Go.wp_at_succ
theorem make_both (AR AZ AL : Option Addr) (cR cZ cL : Nat) (rs : List RuT) (zs : List ZoT) (ls : List LkT) (nm : ByteArray) (hnm : nm.size ≤ maxLen) (F T : Int) (hF1 : -9223372036854775808 ≤ F) (hF2 : F ≤ 9223372036854775807) (hT1 : -9223372036854775808 ≤ T) (hT2 : T ≤ 9223372036854775807) (w : World) (H : BkOk w w.heap.size ⟨AR, AZ, AL, cR, cZ, cL, rs, zs, ls⟩) (HI : EraIn w) :
    ∃ (E : Int) (s : NSt), (∀ V : World, Below w.heap.size w V → Calls Tryz.prog 15 #[.agg #[.slice AR rs.length cR, .slice AZ zs.length cZ, .slice AL ls.length cL], .string nm, .agg #[.int .i64 F, .int .i64 T]] V (TmPost E s V)) ∧
      ∀ V : World, Below w.heap.size w V → Calls Tryz.prog 16 #[.agg #[.slice AR rs.length cR, .slice AZ zs.length cZ, .slice AL ls.length cL], .string nm, .agg #[.int .i64 F, .int .i64 T]] V (TmPost E s V) := by
  have err : ∀ n : Int, n ≠ 0 → (bookE rs zs ls = n ∨ bookE rs zs ls = 0 ∧ rsV (res zs ls (ls.length + 1) nm) = .tuple #[zo0, .int .i64 n]) → ∃ (E : Int) (s : NSt), (∀ V : World, Below w.heap.size w V → Calls Tryz.prog 15 #[.agg #[.slice AR rs.length cR, .slice AZ zs.length cZ, .slice AL ls.length cL], .string nm, .agg #[.int .i64 F, .int .i64 T]] V (TmPost E s V)) ∧
      ∀ V : World, Below w.heap.size w V → Calls Tryz.prog 16 #[.agg #[.slice AR rs.length cR, .slice AZ zs.length cZ, .slice AL ls.length cL], .string nm, .agg #[.int .i64 F, .int .i64 T]] V (TmPost E s V) := fun n h0 hc => by
    refine ⟨n, nBegin default, fun V hb => ?_, fun V hb => ?_⟩
    · refine (m_Make_e AR AZ AL cR cZ cL rs zs ls nm hnm F T V (H.step hb) (HI.on hb) n h0 hc).mono ?_
      rintro e w' ⟨rfl, h⟩
      exact tm_bad h0 h
    · refine (r_TableMake_e AR AZ AL cR cZ cL rs zs ls nm hnm F T V (H.step hb) n h0 hc).mono ?_
      rintro e w' ⟨rfl, h⟩
      exact tm_bad h0 h
  by_cases h : bookE rs zs ls = 0
  · cases hr : res zs ls (ls.length + 1) nm with
    | zone z =>
      obtain ⟨e1, _, e3, _⟩ := esOk_of h (res_mem hr)
      obtain ⟨s, hs⟩ : ∃ s, nBuild (fT rs z.eras F) ((refL rs z.eras F T z.eras.length).map fun t => (t, fT rs z.eras t)) = s := ⟨_, rfl⟩
      obtain ⟨E, hE⟩ : ∃ E : Int, E = if stE F ≠ 0 ∨ stE T ≠ 0 ∨ T ≤ F then 1 else if ersE rs z.eras ≠ 0 then ersE rs z.eras else if 250 < s.ts.length ∨ 1000 < s.cs.length then 2 else 0 := ⟨_, rfl⟩
      have hE1 : stE F ≠ 0 ∨ stE T ≠ 0 ∨ T ≤ F → E = 1 := fun h => by rw [hE, if_pos h]
      have hE2 : stE F = 0 → stE T = 0 → F < T → ersE rs z.eras ≠ 0 → E = ersE rs z.eras := fun a b c d => by
        rw [hE, if_neg (by rintro (h | h | h) <;> omega), if_pos d]
      have hE3 : stE F = 0 → stE T = 0 → F < T → ersE rs z.eras = 0 → E = if 250 < s.ts.length ∨ 1000 < s.cs.length then 2 else 0 := fun a b c d => by
        rw [hE, if_neg (by rintro (h | h | h) <;> omega), if_neg (by omega)]
      exact ⟨E, s, fun V hb => m_Make_z AR AZ AL cR cZ cL rs zs ls nm hnm F T V (H.step hb) (HI.on hb) hF1 hF2 hT1 hT2 z h hr E s hE1 hE2 (fun a b c d => ⟨fun m h1 h2 h3 => by rw [← hs]; exact tab_both e3 e1 m h1 h2 h3, hE3 a b c d⟩),
        fun V hb => r_TableMake_z AR AZ AL cR cZ cL rs zs ls nm hnm F T V (H.step hb) z h hr E s hE1 hE2 (fun a b c d => ⟨hs.symm, hE3 a b c d⟩)⟩
    | none => exact err 6 (by decide) (Or.inr ⟨h, by rw [hr]; rfl⟩)
    | loop => exact err 8 (by decide) (Or.inr ⟨h, by rw [hr]; rfl⟩)
  · exact err _ h (Or.inl rfl)
set_option maxRecDepth 100000 in
set_option maxHeartbeats 4000000 in
theorem walk_all (AR AZ AL : Option Addr) (cR cZ cL : Nat) (rs : List RuT) (zs : List ZoT) (ls : List LkT) (nm : ByteArray) (hnm : nm.size ≤ maxLen) (F T : Int) (hF1 : -9223372036854775808 ≤ F) (hF2 : F ≤ 9223372036854775807) (hT1 : -9223372036854775808 ≤ T) (hT2 : T ≤ 9223372036854775807) (w : World) (H : BkOk w w.heap.size ⟨AR, AZ, AL, cR, cZ, cL, rs, zs, ls⟩) (HI : EraIn w) :
    Calls Tryz.prog 5 #[.agg #[.slice AR rs.length cR, .slice AZ zs.length cZ, .slice AL ls.length cL], .string nm, .agg #[.int .i64 F, .int .i64 T]] w fun e w' => e = .returned (.bool true) ∧ Below w.heap.size w w' := by
  obtain ⟨E, s, hA, hR⟩ := make_both AR AZ AL cR cZ cL rs zs ls nm hnm F T hF1 hF2 hT1 hT2 w H HI
  obtain ⟨TS, hTS⟩ : ∃ TS, (if E = 0 then s.ts else []) = TS := ⟨_, rfl⟩
  obtain ⟨CS, hCS⟩ : ∃ CS, (if E = 0 then s.cs else []) = CS := ⟨_, rfl⟩
  unfold TmPost at hA hR
  rw [hTS, hCS] at hA hR
  have HA := Lib.hid hA
  have HR := Lib.hid hR
  have hb1 := (Below.refl w.heap.size w).alloc (Nat.le_refl _) (.cells #[.slice AR rs.length cR, .slice AZ zs.length cZ, .slice AL ls.length cL] 26)
  have hb2 := hb1.alloc (by rw [size_alloc]; omega) (.cells #[.int .i64 F, .int .i64 T] 41)
  have k1 := (Blk.new w #[.slice AR rs.length cR, .slice AZ zs.length cZ, .slice AL ls.length cL] 26).alloc (.cells #[.int .i64 F, .int .i64 T] 41)
  have k2 := Blk.new (w.alloc (.cells #[.slice AR rs.length cR, .slice AZ zs.length cZ, .slice AL ls.length cL] 26)) #[.int .i64 F, .int .i64 T] 41
  rw [size_alloc] at k2
  have HK := Lib.hid k1
  have HS := Lib.hid k2
  have HB := Lib.hid hb2
  clear hA hR H HI hb1 hb2 k1 k2 hTS hCS
  have kb := HK.out.cell
  have sb := HS.out.cell
  go_enter Tryz.func5, Tryz.ntmps5
  go_wp2_with fail
  refine (HA.out _ HB.out).mono ?_
  rintro e w1 ⟨A1, C1, cT1, cC1, rfl, hT1, hb1⟩
  have hb2 := hb1.alloc hb1.size (.cells #[.slice A1 TS.length cT1, .int .i64 0, .slice C1 CS.length cC1] 45)
  have HT1 := Lib.hid (hT1.below (hb1.alloc hb1.size (.cells #[.slice A1 TS.length cT1, .int .i64 0, .slice C1 CS.length cC1] 45) |> fun _ => (Below.refl w1.heap.size w1).alloc (Nat.le_refl _) (.cells #[.slice A1 TS.length cT1, .int .i64 0, .slice C1 CS.length cC1] 45)))
  replace HB := Lib.hid (HB.out.trans (hb2.mono HB.out.size))
  replace HK := Lib.hid (HK.out.step hb2)
  replace HS := Lib.hid (HS.out.step hb2)
  have HX := Lib.hid (Blk.new w1 #[.slice A1 TS.length cT1, .int .i64 0, .slice C1 CS.length cC1] 45)
  clear hb1 hb2 kb sb hT1
  go_upto_region 2 with fail
  obtain ⟨W1, hW1⟩ : ∃ W, w1.alloc (.cells #[.slice A1 TS.length cT1, .int .i64 0, .slice C1 CS.length cC1] 45) = W := ⟨_, rfl⟩
  obtain ⟨g1, hg1⟩ : ∃ g, w1.heap.size = g := ⟨_, rfl⟩
  rw [hW1] at HB HK HX HS HT1 ⊢
  rw [hg1] at HX ⊢
  clear hW1 hg1
  have kb := HK.out.cell
  have kl := HK.out.lt
  have sb := HS.out.cell
  have sl := HS.out.lt
  go_wp2_with fail
  refine (HR.out _ HB.out).mono ?_
  rintro e w2 ⟨A2, C2, cT2, cC2, rfl, hT2, hb1⟩
  have hbv := (Below.refl w2.heap.size w2).alloc (Nat.le_refl _) (.cells #[.slice A2 TS.length cT2, .int .i64 0, .slice C2 CS.length cC2] 45)
  have hb2 := hb1.trans (hbv.mono hb1.size)
  have HT2 := Lib.hid (hT2.below hbv)
  replace HT1 := Lib.hid (HT1.out.below hb2)
  replace HB := Lib.hid (HB.out.trans (hb2.mono HB.out.size))
  replace HX := Lib.hid (HX.out.step hb2)
  have HY := Lib.hid (Blk.new w2 #[.slice A2 TS.length cT2, .int .i64 0, .slice C2 CS.length cC2] 45)
  clear hb1 hb2 hbv kb kl sb sl HK HA HR HS hT2
  go_upto_region 3 with fail
  obtain ⟨W2, hW2⟩ : ∃ W, w2.alloc (.cells #[.slice A2 TS.length cT2, .int .i64 0, .slice C2 CS.length cC2] 45) = W := ⟨_, rfl⟩
  obtain ⟨g2, hg2⟩ : ∃ g, w2.heap.size = g := ⟨_, rfl⟩
  rw [hW2] at HB HX HY HT1 HT2 ⊢
  rw [hg2] at HY ⊢
  clear hW2 hg2
  have xc := HX.out.cell
  have yc := HY.out.cell
  have xl := HX.out.lt
  have yl := HY.out.lt
  have HE := Lib.hid (r_TableEq A1 C1 A2 C2 cT1 cC1 cT2 cC2 TS 0 CS W2 HT1.out HT2.out)
  go_wp2_with fail
  refine HE.out.mono ?_
  rintro e w3 ⟨rfl, hb3⟩
  have hee : (E == E) = true := beq_self_eq_true _
  replace HB := Lib.hid (HB.out.trans (hb3.mono HB.out.size))
  clear hb3 HE xc yc xl yl
  go_wp2_with fail
  refine (t_Check_zero _).mono ?_
  rintro e w4 ⟨rfl, hb4⟩
  go_wp2_with fail
  go_ret
  exact ⟨ret_bool (by simp), HB.out.trans (hb4.mono HB.out.size)⟩
theorem walk (D : BkD) (nm : ByteArray) (hnm : nm.size ≤ maxLen) (F T : Int) (hF : (Lit.int .i64 F).wf = true) (hT : (Lit.int .i64 T).wf = true) (w : World) (HB : BkOk w w.heap.size D) (hL : laidMet Tryz.prog Rows.tableMakesRow.laid w) :
    Calls Tryz.prog 5 #[.agg D.v, .string nm, .agg #[.int .i64 F, .int .i64 T]] w fun e w' => e = .returned (.bool true) ∧ Below w.heap.size w w' := by
  have HT := tab_of_laid (laidMet.tail (laidMet.tail hL))
  have HI : EraIn w := fun y hy => itoa_tab w y (by omega) HT
  have hF' : -9223372036854775808 ≤ F ∧ F ≤ 9223372036854775807 := by
    simp [Lit.wf, IntKind.min, IntKind.max, IntKind.signed, IntKind.bits] at hF; omega
  have hT' : -9223372036854775808 ≤ T ∧ T ≤ 9223372036854775807 := by
    simp [Lit.wf, IntKind.min, IntKind.max, IntKind.signed, IntKind.bits] at hT; omega
  exact walk_all D.AR D.AZ D.AL D.cR D.cZ D.cL D.rs D.zs D.ls nm hnm F T hF'.1 hF'.2 hT'.1 hT'.2 w HB HI

theorem door_met (os : Os) (args : Array Value) : laidMetH Tryz.prog Rows.tableMakesRow.laid ((World.laidAll Tryz.prog os Rows.tableMakesRow.laid).forCall (fun _ _ => 0) ⟨#[], args, []⟩).memory := by
  rw [MakeChecks.laidMetH_plain _ _ _ (by kernel_rfl)]
  exact laidMet_laidAll args (by kernel_rfl) (by kernel_rfl)
set_option maxRecDepth 100000 in
theorem lifted (os : Os) (started : os.Started) (H : Type) (enc : TypeId × Value → H) :
    ReturnsInHanded {} Tryz.checked os 5 .any (fun w args => (Rows.tableMakesSpec.pre enc Tryz.prog Tryz.f5 [] false w args ∧ laidMetH Tryz.prog Rows.tableMakesRow.laid w) ∧ sizedMet enc Tryz.prog Tryz.f5 (OpenSpec.ofChange Rows.tableMakesSpec) false w args)
      (Rows.tableMakesSpec.post enc Tryz.prog Tryz.f5 false true false false) := by
  refine returnsInHanded_of_change_and (C := Tryz.checked) (X := fun w _ => laidMetH Tryz.prog Rows.tableMakesRow.laid w) (fun _ _ _ hh h => h.of_heap hh) own started (by kernel_rfl) Tryz.func5
    (ChangeSpec.witness_shaped (enc := enc) (C := Tryz.checked) (os := os) (X := fun w _ => laidMetH Tryz.prog Rows.tableMakesRow.laid w) false (World.laidAll Tryz.prog os Rows.tableMakesRow.laid) #[.agg #[.slice none 0 0, .slice none 0 0, .slice none 0 0], .string ⟨#[]⟩, .agg #[.int .i64 0, .int .i64 0]] 8 (World.laidAll_os _ _ _) (World.shaped_of_ZipB (by kernel_rfl) (by kernel_rfl)) (by kernel_rfl) (by kernel_rfl) (by kernel_rfl) (door_met os _)) ?_
  intro W base args ds gs before hval0 hW _ _ hL _
  rw [MakeChecks.laidMetH_plain _ _ _ (by kernel_rfl)] at hL
  have hval : ∀ (j : Nat) t v, Tryz.f5.params[j]? = some t → args[j]? = some v → Value.okWide Tryz.prog W .any base t v := hval0
  have hW' := hW
  have hltW : ∀ x ∈ before, x.block < W.heap.size := fun x hx => by simpa using hW.lt x hx
  obtain ⟨p, q, hA0, hV, rfl, hfz, hnd⟩ := hW
  have hlt : ∀ x ∈ p, x.block < W.heap.size := fun x hx => hltW x (by simp [hx])
  clear hltW
  have hA : DataW.TrodAll enc Tryz.prog W 0 (fun _ => true) true Tryz.f5.params.toList args.toList ds p := hA0
  rw [Tryz.params5] at hA hval
  obtain ⟨v0, vs0, d0, ds0, p0, q0, hargs, rfl, rfl, h0, r0⟩ := trodAll_cons hA
  obtain ⟨v1, vs1, d1, ds1, p1, q1, rfl, rfl, rfl, h1, r1⟩ := trodAll_cons r0
  obtain ⟨v2, vs2, d2, ds2, p2, q2, rfl, rfl, rfl, h2, r2⟩ := trodAll_cons r1
  obtain ⟨rfl, rfl, rfl⟩ := trodAll_nil r2
  obtain rfl : args = #[v0, v1, v2] := by cases args; simp_all
  obtain ⟨rfl, rfl⟩ := trodVars_none hV
  obtain ⟨D0, rfl, HB0⟩ := val_book (hval 0 26 v0 rfl rfl) h0
  obtain ⟨a1, rfl, rfl, rfl, w1⟩ := Go.ChangeMaps.open_string Tryz.underlying9 (hval 1 9 v1 rfl rfl) h1
  obtain ⟨fr2, to2, rfl, wi_fr2, wi_to2⟩ := val_span (hval 2 41 v2 rfl rfl) h2
  clear hA0 hval0
  refine (walk D0 a1 w1 fr2 to2 wi_fr2 wi_to2 W HB0 hL).mono fun e W' ⟨he, hg⟩ => ?_
  subst he
  exact ⟨_, rfl, law_post rfl hW' rfl rfl rfl rfl (by rw [Tryz.params5]; decide +kernel) hg⟩

/-- the statement -/
theorem proved : Rows.TableMakesSaid :=
  OpenClaim.holds_of_wide 5 Tryz.f5 rfl rfl rfl rfl rfl rfl rfl ⟨rfl, rfl, rfl, rfl, rfl⟩ rfl rfl rfl rfl rfl (by kernel_rfl) Tryz.func5 (by kernel_rfl)
    (of_decide_eq_true (by kernel_rfl)) (by unfold Func.isWrapper; first | (rw [if_pos (by decide +kernel)]; kernel_rfl) | (rw [if_neg (by decide +kernel)]; exact ⟨rfl, rfl⟩))
    (fun os started H enc _ => lifted os started H enc)
/-- the tied card -/
theorem card : Rows.TableMakesCardSaid :=
  Claim7.holds_tied_plain_at .later [] [.data, .data, .data] true (true, "ee7847e288fee7e66eef2716021ccc79dd465b389d4d501099d400172deb19b5") true
    proved (fun _ h => by cases h) (by kernel_rfl) (fun _ h => by cases h) tableMakes_row_tie rfl ⟨rfl, rfl⟩ (by kernel_rfl) rfl
    (fun f fn hf hfn => by
      obtain rfl : f = 5 := Option.some.inj ((show Tryz.prog.funcNamed "timeball/timeballlaw.TableMakes" = some 5 by kernel_rfl).symm.trans hf) |>.symm
      obtain rfl : fn = Tryz.f5 := (Option.some.inj (Tryz.func5.symm.trans hfn)).symm
      exact ⟨by kernel_rfl, fun j t ht => by
        have hm := Array.mem_of_getElem? ht
        have hall : (Tryz.f5.params.toList.all fun u => !Tryz.prog.wantsStandIn u) = true := by kernel_rfl
        exact (show Tryz.prog.wantsStandIn t = false by simpa using List.all_eq_true.1 hall t (by simpa using hm))⟩)
    (by kernel_rfl)
end Go.Proofs.YtanaoohgpdcfjaaGreatDoor.tableMakes
