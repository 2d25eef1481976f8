/- The law BookParses holds at every input: Parse returns what the reference returns. No condition. -/
import Derived.Test.YthppifcggmdmoaaGreatDoorJ04
import Derived.Test.YthppifcggmdmoaaGreatDoorJ07
import Derived.Test.YthppifcggmdmoaaGreatDoorJ25
import Derived.Test.YthppifcggmdmoaaGreatDoorJ44
import Derived.Test.YthppifcggmdmoaaGreatDoorJ45
import Derived.Test.YthppifcggmdmoaaGreatDoorCards
import Derived.Test.YthppifcggmdmoaaGreatDoorTie
import Derived.LaidMore
import Derived.OpenShut
import Derived.Stop.Joined
import Derived.SevenTiedAt
import Derived.Lay
import Derived.MakeChecks
import Derived.Deep.DeepHandedRow
namespace Go.Proofs.YthppifcggmdmoaaGreatDoor.bookParses
open Go.ChangeShapes Go.WideShapes Go.ChangeAt Go.RowKit
set_option linter.unusedVariables false
set_option linter.unusedSimpArgs false
attribute [local go_sem ↓] Go.wp_at_zero Go.wp_at_succ
set_option maxRecDepth 100000 in
theorem sp_of_laid {W : World} {r : List (String × DataW Unit)} (h : laidMet Tryz.prog (("strings.asciiSpace", Rows.laid_strings_asciiSpace) :: r) W) : Lib.TabIs Tryz.prog W "strings.asciiSpace" .u8 Lib.asciiSpaceTab :=
 Lib.tabIs_of_head (k := .u8) (zs := Lib.asciiSpaceTab) (g := 1) (n := 256) (by kernel_rfl) (by kernel_rfl) Tryz.underlying223 Tryz.underlying5 (by kernel_rfl) (by kernel_rfl) h
theorem rp_of_laid (w : World) (hSO : w.ShapedOpen Tryz.prog) (hL : laidMet Tryz.prog Rows.bookParsesRow.laid w) : RpW w := by
 have es := es_of_laid (laidMet.tail (laidMet.tail (laidMet.tail (laidMet.tail (laidMet.tail hL)))))
 have er := er_of_laid (laidMet.tail (laidMet.tail (laidMet.tail (laidMet.tail hL))))
 have HT := tab_of_laid (laidMet.tail (laidMet.tail hL))
 exact RpW.mk (RdX.mk es er (Tryz.laysM145.s1_3 w hSO)) (RdW.mk es er (fun y hy => itoa_tab w y (by omega) HT)) (trim_tab w (sp_of_laid (laidMet.tail (laidMet.tail (laidMet.tail (laidMet.tail (laidMet.tail (laidMet.tail (laidMet.tail hL)))))))))
set_option maxRecDepth 100000 in
set_option maxHeartbeats 4000000 in
theorem walk (s : ByteArray) (w0 : s.size ≤ maxLen) (w : World) (hSO : w.ShapedOpen Tryz.prog) (hL : laidMet Tryz.prog Rows.bookParsesRow.laid w) :
  Calls Tryz.prog 3 #[.string s] w fun e w' => e = .returned (.bool true) ∧ Below w.heap.size w w' := by
 obtain ⟨F, _⟩ := rdr_ex
 have z0 : abE ⟨#[]⟩ 0 ⟨#[45]⟩ = 3 := by decide
 have HA := Lib.hid (fun (V : World) => b_Abbr ⟨#[]⟩ ⟨#[45]⟩ 0 dash_sz V)
 rw [z0] at HA
 have HK := Lib.hid (b_Parse F s w (rp_of_laid w hSO hL))
 have HR := Lib.hid (fun (V : World) => r_BookParse F s V)
 clear z0 hSO hL w0
 go_enter Tryz.func3, Tryz.ntmps3
 go_wp2_with fail
 refine HK.out.mono ?_
 rintro e w1 ⟨st, n, er, ⟨AR, AZ, AL, cR, cZ, cL, rs, zs, ls⟩, he, h1, ⟨d1, d2, d3⟩, hk, hb1⟩
 simp only [BkD.v] at he
 subst he
 simp only at d1 d2 d3
 have hb2 := hb1.alloc hb1.size (.cells #[.slice AR rs.length cR, .slice AZ zs.length cZ, .slice AL ls.length cL] 26)
 have hv := (Below.refl w1.heap.size w1).alloc (Nat.le_refl _) (.cells #[.slice AR rs.length cR, .slice AZ zs.length cZ, .slice AL ls.length cL] 26)
 have HB := Lib.hid hb2
 have H1 := Lib.hid h1
 have HD := Lib.hid (And.intro d1 (And.intro d2 d3))
 have HO := Lib.hid (hk.step hv)
 have HX := Lib.hid (Blk.new w1 #[.slice AR rs.length cR, .slice AZ zs.length cZ, .slice AL ls.length cL] 26)
 clear hb1 hb2 hv h1 d1 d2 d3 hk HK
 go_upto_region 2 with fail
 obtain ⟨V, hV⟩ : ∃ V, w1.alloc (.cells #[.slice AR rs.length cR, .slice AZ zs.length cZ, .slice AL ls.length cL] 26) = V := ⟨_, rfl⟩
 obtain ⟨g, hg⟩ : ∃ g, w1.heap.size = g := ⟨_, rfl⟩
 rw [hV] at HB HO HX ⊢
 rw [hg] at HX ⊢
 clear hV hg
 go_wp2_with fail
 refine (HR.out V).mono ?_
 rintro e w2 ⟨st2, n2, er2, ⟨AR2, AZ2, AL2, cR2, cZ2, cL2, rs2, zs2, ls2⟩, he, h2, ⟨d1, d2, d3⟩, hk, hb1⟩
 obtain ⟨rfl, rfl, rfl⟩ := H1.out.one h2
 simp only [BkD.v] at he
 subst he
 simp only at d1 d2 d3
 have hr : rs2 = rs := d1.trans HD.out.1.symm
 have hl : ls2 = ls := d3.trans HD.out.2.2.symm
 subst hr hl
 have hz : zs.map zoP = zs2.map zoP := HD.out.2.1.trans d2.symm
 have hln : zs2.length = zs.length := by have := congrArg List.length hz; simpa using this.symm
 rw [hln]
 obtain ⟨m, hm⟩ : ∃ m, zs.length = m := ⟨_, rfl⟩
 rw [hm] at HX ⊢
 have HZ := Lib.hid hz
 have HM := Lib.hid hm
 have hv := (Below.refl w2.heap.size w2).alloc (Nat.le_refl _) (.cells #[.slice AR2 rs2.length cR2, .slice AZ2 m cZ2, .slice AL2 ls2.length cL2] 26)
 have hb2 := hb1.trans (hv.mono hb1.size)
 replace HB := Lib.hid (HB.out.trans (hb2.mono HB.out.size))
 replace HO := Lib.hid (HO.out.step hb2)
 replace HX := Lib.hid (HX.out.step hb2)
 have HO2 := Lib.hid (hk.step hv)
 have HY := Lib.hid (Blk.new w2 #[.slice AR2 rs2.length cR2, .slice AZ2 m cZ2, .slice AL2 ls2.length cL2] 26)
 clear hb1 hb2 hv h2 d1 d2 d3 hk hz hln hm HD H1 HR
 go_upto_region 3 with fail
 obtain ⟨V2, hV⟩ : ∃ V, w2.alloc (.cells #[.slice AR2 rs2.length cR2, .slice AZ2 m cZ2, .slice AL2 ls2.length cL2] 26) = V := ⟨_, rfl⟩
 obtain ⟨g2, hg⟩ : ∃ g, w2.heap.size = g := ⟨_, rfl⟩
 rw [hV] at HB HO HO2 HX HY ⊢
 rw [hg] at HY ⊢
 clear hV hg
 go_wp2_with fail
 refine (HA.out V2).mono ?_
 rintro e w3 ⟨rfl, hb⟩
 replace HB := Lib.hid (HB.out.trans (hb.mono HB.out.size))
 replace HO := Lib.hid (HO.out.step hb)
 replace HO2 := Lib.hid (HO2.out.step hb)
 replace HX := Lib.hid (HX.out.step hb)
 replace HY := Lib.hid (HY.out.step hb)
 clear hb HA
 have HE := Lib.hid (r_BookEqB AR AZ AL AR2 AZ2 AL2 cR cZ cL cR2 cZ2 cL2 rs2 zs zs2 ls2 w3 HO.out HO2.out HZ.out m HM.out)
 have xc := HX.out.cell
 have xl := HX.out.lt
 have yc := HY.out.cell
 have yl := HY.out.lt
 go_wp2_with fail
 refine HE.out.mono ?_
 rintro e w4 ⟨rfl, hb⟩
 replace HB := Lib.hid (HB.out.trans (hb.mono HB.out.size))
 have e1 : (n == n) = true := beq_self_eq_true _
 have e2 : (er == er) = true := beq_self_eq_true _
 clear hb HE xc xl yc yl
 go_wp2_with fail
 go_ret
 exact ⟨ret_bool (by simp), HB.out⟩
theorem door_met (os : Os) (args : Array Value) : laidMetH Tryz.prog Rows.bookParsesRow.laid ((World.laidAll Tryz.prog os Rows.bookParsesRow.laid).forCall (fun _ _ => 0) ⟨#[], args, []⟩).memory := by
 rw [MakeChecks.laidMetH_plain _ _ _ (by kernel_rfl)]
 exact laidMet_laidAll args (by kernel_rfl) (by kernel_rfl)
set_option maxRecDepth 100000 in
theorem lifted (os : Os) (started : os.Started) (H : Type) (enc : TypeId × Value → H) :
  ReturnsInHanded {} Tryz.checked os 3 .any (fun w args => (Rows.bookParsesSpec.pre enc Tryz.prog Tryz.f3 [] false w args ∧ laidMetH Tryz.prog Rows.bookParsesRow.laid w) ∧ sizedMet enc Tryz.prog Tryz.f3 (OpenSpec.ofChange Rows.bookParsesSpec) false w args)
   (Rows.bookParsesSpec.post enc Tryz.prog Tryz.f3 false true false false) := by
 refine lift_shaped (C := Tryz.checked) (X := fun w _ => laidMetH Tryz.prog Rows.bookParsesRow.laid w) (fun _ _ _ hh h => h.of_heap hh) own started (by kernel_rfl) Tryz.func3
  (ChangeSpec.witness_shaped (enc := enc) (C := Tryz.checked) (os := os) (X := fun w _ => laidMetH Tryz.prog Rows.bookParsesRow.laid w) false (World.laidAll Tryz.prog os Rows.bookParsesRow.laid) #[.string ⟨#[]⟩] 8 (World.laidAll_os _ _ _) (World.shaped_of_ZipB (by kernel_rfl) (by kernel_rfl)) (by kernel_rfl) (by kernel_rfl) (by kernel_rfl) (door_met os _)) ?_
 intro W base args ds gs before hval0 hW hL hSO
 rw [MakeChecks.laidMetH_plain _ _ _ (by kernel_rfl)] at hL
 have hval : ∀ (j : Nat) t v, Tryz.f3.params[j]? = some t → args[j]? = some v → Value.okWide Tryz.prog W .any base t v := hval0
 have hW' := hW
 have hltW : ∀ x ∈ before, x.block < W.heap.size := fun x hx => by simpa using hW.lt x hx
 obtain ⟨p, q, hA0, hV, rfl, hfz, hnd⟩ := hW
 have hlt : ∀ x ∈ p, x.block < W.heap.size := fun x hx => hltW x (by simp [hx])
 clear hltW
 have hA : DataW.TrodAll enc Tryz.prog W 0 (fun _ => true) true Tryz.f3.params.toList args.toList ds p := hA0
 rw [Tryz.params3] at hA hval
 obtain ⟨v0, vs0, d0, ds0, p0, q0, hargs, rfl, rfl, h0, r0⟩ := trodAll_cons hA
 obtain ⟨rfl, rfl, rfl⟩ := trodAll_nil r0
 obtain rfl : args = #[v0] := by cases args; simp_all
 obtain ⟨rfl, rfl⟩ := trodVars_none hV
 obtain ⟨a0, rfl, rfl, rfl, w0⟩ := Go.ChangeMaps.open_string Tryz.underlying9 (hval 0 9 v0 rfl rfl) h0
 clear hA0 hval0
 refine (walk a0 w0 W hSO hL).mono fun e W' ⟨he, hg⟩ => ?_
 subst he
 exact ⟨_, rfl, law_post rfl hW' rfl rfl rfl rfl (by rw [Tryz.params3]; decide +kernel) hg⟩

theorem proved : Rows.BookParsesSaid :=
 OpenClaim.holds_of_wide 3 Tryz.f3 rfl rfl rfl rfl rfl rfl rfl ⟨rfl, rfl, rfl, rfl, rfl⟩ rfl rfl rfl rfl rfl (by kernel_rfl) Tryz.func3 (by kernel_rfl)
  (of_decide_eq_true (by kernel_rfl)) (by unfold Func.isWrapper; first | (rw [if_pos (by decide +kernel)]; kernel_rfl) | (rw [if_neg (by decide +kernel)]; exact ⟨rfl, rfl⟩))
  (fun os started H enc _ => lifted os started H enc)
theorem card : Rows.BookParsesCardSaid :=
 Claim7.holds_tied_plain_at .later [] [.data, .data, .data, .data, .sentinel, .sentinel, .listed, .data, .pinned] true (true, "9e945dfe7ebd4edced2baa8d77d8df4c2a5c8ee73fd994a3e3e08430af2b5d2f") true
  proved (fun _ h => by cases h) (by kernel_rfl) (fun _ h => by cases h) bookParses_row_tie rfl ⟨rfl, rfl⟩ (by kernel_rfl) rfl
  (fun f fn hf hfn => by
   obtain rfl : f = 3 := Option.some.inj ((show Tryz.prog.funcNamed "timeball/timeballlaw.BookParses" = some 3 by kernel_rfl).symm.trans hf) |>.symm
   obtain rfl : fn = Tryz.f3 := (Option.some.inj (Tryz.func3.symm.trans hfn)).symm
   exact ⟨by kernel_rfl, fun j t ht => by
    have hm := Array.mem_of_getElem? ht
    have hall : (Tryz.f3.params.toList.all fun u => !Tryz.prog.wantsStandIn u) = true := by kernel_rfl
    exact (show Tryz.prog.wantsStandIn t = false by simpa using List.all_eq_true.1 hall t (by simpa using hm))⟩)
  (by kernel_rfl)
end Go.Proofs.YthppifcggmdmoaaGreatDoor.bookParses

