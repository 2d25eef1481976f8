/- The law TopWall holds at every input: each second of a span is shown as it is, found by what is shown, and far from changes it is the only one. No condition. -/
import Derived.Test.YthppifcggmdmoaaGreatDoorW04
import Derived.Test.YthppifcggmdmoaaGreatDoorW06
import Derived.Test.YthppifcggmdmoaaGreatDoorW09
import Derived.Test.YthppifcggmdmoaaGreatDoorW40
import Derived.Test.YthppifcggmdmoaaGreatDoorW42
import Derived.Test.YthppifcggmdmoaaGreatDoorW45
import Derived.Test.YthppifcggmdmoaaGreatDoorCards
import Derived.Test.YthppifcggmdmoaaGreatDoorTie
import Derived.LaidMore
import Derived.OpenShut
import Derived.Stop.Joined
import Derived.SevenTiedAt
import Derived.Lay
import Derived.MakeChecks
import Derived.Deep.DeepHandedRow
namespace Go.Proofs.YthppifcggmdmoaaGreatDoor.topWall
open Go.ChangeShapes Go.WideShapes Go.ChangeAt Go.RowKit
set_option linter.unusedVariables false
set_option linter.unusedSimpArgs false
attribute [local go_sem ↓] Go.wp_at_zero Go.wp_at_succ
set_option maxRecDepth 100000 in
theorem sp_of_laid {W : World} {r : List (String × DataW Unit)} (h : laidMet Tryz.prog (("strings.asciiSpace", Rows.laid_strings_asciiSpace) :: r) W) : Lib.TabIs Tryz.prog W "strings.asciiSpace" .u8 Lib.asciiSpaceTab :=
 Lib.tabIs_of_head (k := .u8) (zs := Lib.asciiSpaceTab) (g := 1) (n := 256) (by kernel_rfl) (by kernel_rfl) Tryz.underlying223 Tryz.underlying5 (by kernel_rfl) (by kernel_rfl) h
theorem rp_of_laid (w : World) (hSO : w.ShapedOpen Tryz.prog) (hL : laidMet Tryz.prog Rows.topWallRow.laid w) : RpW w := by
 have es := es_of_laid (laidMet.tail (laidMet.tail (laidMet.tail (laidMet.tail (laidMet.tail hL)))))
 have er := er_of_laid (laidMet.tail (laidMet.tail (laidMet.tail (laidMet.tail hL))))
 have HT := tab_of_laid (laidMet.tail (laidMet.tail hL))
 exact RpW.mk (RdX.mk es er (Tryz.laysM145.s1_3 w hSO)) (RdW.mk es er (fun y hy => itoa_tab w y (by omega) HT)) (trim_tab w (sp_of_laid (laidMet.tail (laidMet.tail (laidMet.tail (laidMet.tail (laidMet.tail (laidMet.tail (laidMet.tail hL)))))))))
theorem wf_bd {n : Int} (h : (Lit.int .i64 n).wf = true) : -9223372036854775808 ≤ n ∧ n ≤ 9223372036854775807 := by
 simp [Lit.wf, IntKind.min, IntKind.max, IntKind.signed, IntKind.bits] at h; omega
set_option maxRecDepth 100000 in
set_option maxHeartbeats 8000000 in
theorem walk' (AR AZ AL : Option Addr) (cR cZ cL : Nat) (rs : List RuT) (zs : List ZoT) (ls : List LkT) (nm : ByteArray) (hnm : nm.size ≤ maxLen) (fr long at_ : Int) (a1 : -9223372036854775808 ≤ fr) (a2 : fr ≤ 9223372036854775807) (b1 : -9223372036854775808 ≤ long) (b2 : long ≤ 9223372036854775807) (c1 : -9223372036854775808 ≤ at_) (c2 : at_ ≤ 9223372036854775807) (w : World) (H : BkOk w w.heap.size ⟨AR, AZ, AL, cR, cZ, cL, rs, zs, ls⟩) (P : RpW w) :
  Calls Tryz.prog 5 #[.agg #[.slice AR rs.length cR, .slice AZ zs.length cZ, .slice AL ls.length cL], .string nm, .int .i64 fr, .int .i64 long, .int .i64 at_] w fun e w' => e = .returned (.bool true) ∧ Below w.heap.size w w' := by
 obtain ⟨s1, s2, s3, s4⟩ := sp_bd fr long
 have hM := wall_make AR AZ AL cR cZ cL rs zs ls nm hnm (spF fr) (spT fr long) s1 s3 (by omega) w H (fun y hy => P.S.it y (by omega))
 have HS := Lib.hid (fun (V : World) => t_span fr long a1 a2 b1 b2 V)
 obtain ⟨F, hF⟩ : ∃ F, spF fr = F := ⟨_, rfl⟩
 obtain ⟨T, hT⟩ : ∃ T, spT fr long = T := ⟨_, rfl⟩
 rw [hF] at s1 s2 s3 hM HS
 rw [hT] at s3 s4 hM HS
 clear hF hT a1 a2 b1 b2
 obtain ⟨E, s, hMk, hOk⟩ := hM
 have hdT : 0 < T - F ∧ T - F ≤ 4611686018427387904 := by omega
 have HR := Lib.hid (fun (V : World) => rest_M at_ (T - F) c1 c2 hdT.1 hdT.2 V)
 have hr1 := Int.emod_nonneg at_ (show T - F ≠ 0 by omega)
 have hr2 := Int.emod_lt_of_pos at_ hdT.1
 obtain ⟨r, hr⟩ : ∃ r, at_ % (T - F) = r := ⟨_, rfl⟩
 rw [hr] at HR hr1 hr2
 clear hr c1 c2 hdT
 have hwD : IntKind.i64.wrap (T - F) = T - F := IntWalk.i64_in _ (by omega)
 have hwA : IntKind.i64.wrap (F + r) = F + r := IntWalk.i64_in _ (by omega)
 obtain ⟨t, ht⟩ : ∃ t, F + r = t := ⟨_, rfl⟩
 have ht1 : F ≤ t := by omega
 have ht2 : t < T := by omega
 have HTt := Lib.hid ht
 rw [ht] at hwA
 obtain ⟨TS, hTS⟩ : ∃ TS, (if E = 0 then s.ts else []) = TS := ⟨_, rfl⟩
 obtain ⟨CS, hCS⟩ : ∃ CS, (if E = 0 then s.cs else []) = CS := ⟨_, rfl⟩
 unfold TmPost at hMk
 rw [hTS, hCS] at hMk
 have hOk2 : E = 0 → TabOk TS 0 CS ∧ ∃ (d : Bool) (n : ByteArray), ∀ V : World, Below w.heap.size w V → Calls Tryz.prog 18 #[.agg #[.slice AR rs.length cR, .slice AZ zs.length cZ, .slice AL ls.length cL], .string nm, .int .i64 t] V fun e w' => e = .returned (.tuple #[.agg #[.int .i64 (offT TS 0 CS t), .bool d, .string n], .int .i64 0]) ∧ Below V.heap.size V w' := fun h0 => by
  obtain ⟨q1, q2⟩ := hOk h0
  rw [if_pos h0] at hTS hCS
  rw [hTS, hCS] at q1 q2
  exact ⟨q1, q2 t ht1 ht2⟩
 have HMk := Lib.hid hMk
 have HOk := Lib.hid hOk2
 have HP := Lib.hid P
 clear hMk hOk hOk2 hTS hCS P hnm
 have hb0 := (Below.refl w.heap.size w).alloc (Nat.le_refl _) (.cells #[.slice AR rs.length cR, .slice AZ zs.length cZ, .slice AL ls.length cL] 26)
 have HX := Lib.hid (Blk.new w #[.slice AR rs.length cR, .slice AZ zs.length cZ, .slice AL ls.length cL] 26)
 have HB := Lib.hid hb0
 have HW := Lib.hid (t_works _ (HP.out.on hb0))
 clear hb0 H
 obtain ⟨V, hV⟩ : ∃ V, w.alloc (.cells #[.slice AR rs.length cR, .slice AZ zs.length cZ, .slice AL ls.length cL] 26) = V := ⟨_, rfl⟩
 obtain ⟨g, hg⟩ : ∃ g, w.heap.size = g := ⟨_, rfl⟩
 have HG := Lib.hid hg
 rw [hV] at HX HB HW
 rw [hg] at HX
 clear ht
 go_enter Tryz.func5, Tryz.ntmps5
 go_wp2_with fail
 try rw [hV]
 try rw [hg]
 clear hV hg
 refine HW.out.mono ?_
 rintro e w1 ⟨rfl, hb⟩
 replace HX := Lib.hid (HX.out.step hb)
 replace HB := Lib.hid (HB.out.trans (hb.mono HB.out.size))
 clear hb HW HP
 go_wp2_with fail
 refine (HS.out _).mono ?_
 rintro e w2 ⟨rfl, hb⟩
 have hv := (Below.refl w2.heap.size w2).alloc (Nat.le_refl _) (.cells #[.int .i64 F, .int .i64 T] 47)
 have hb2 := hb.trans (hv.mono hb.size)
 replace HX := Lib.hid (HX.out.step hb2)
 replace HB := Lib.hid (HB.out.trans (hb2.mono HB.out.size))
 have HY := Lib.hid (Blk.new w2 #[.int .i64 F, .int .i64 T] 47)
 clear hb hv hb2 HS
 go_upto_region 4 with fail
 obtain ⟨V2, hV⟩ : ∃ V, w2.alloc (.cells #[.int .i64 F, .int .i64 T] 47) = V := ⟨_, rfl⟩
 obtain ⟨g2, hg⟩ : ∃ g, w2.heap.size = g := ⟨_, rfl⟩
 rw [hV] at HX HB HY ⊢
 rw [hg] at HY ⊢
 clear hV hg
 have xc := HX.out.cell
 have xl := HX.out.lt
 have yc := HY.out.cell
 have yl := HY.out.lt
 go_wp2_with fail
 refine (HMk.out _ HB.out).mono ?_
 rintro e w3 ⟨A, C, cT, cC, rfl, hT, hb⟩
 have hv := (Below.refl w3.heap.size w3).alloc (Nat.le_refl _) (.cells #[.slice A TS.length cT, .int .i64 0, .slice C CS.length cC] 37)
 have hb2 := hb.trans (hv.mono hb.size)
 replace HX := Lib.hid (HX.out.step hb2)
 replace HY := Lib.hid (HY.out.step hb2)
 replace HB := Lib.hid (HB.out.trans (hb2.mono HB.out.size))
 have HZ := Lib.hid (Blk.new w3 #[.slice A TS.length cT, .int .i64 0, .slice C CS.length cC] 37)
 have HT := Lib.hid (hT.below hv)
 clear hb hv hb2 hT xc xl yc yl HMk
 go_upto_region 5 with fail
 obtain ⟨V3, hV⟩ : ∃ V, w3.alloc (.cells #[.slice A TS.length cT, .int .i64 0, .slice C CS.length cC] 37) = V := ⟨_, rfl⟩
 obtain ⟨g3, hg⟩ : ∃ g, w3.heap.size = g := ⟨_, rfl⟩
 rw [hV] at HX HB HY HZ HT ⊢
 rw [hg] at HZ ⊢
 clear hV hg
 by_cases h0 : E = 0
 rotate_left
 ·have h0' : (E != 0) = true := bne_iff_ne.2 h0
  clear h0
  go_wp2_with fail
  go_ret
  exact ⟨rfl, HB.out⟩
 obtain ⟨K, d, n, hAt⟩ := HOk.out h0
 have HK := Lib.hid K
 have HAt := Lib.hid hAt
 subst h0
 clear K hAt HOk
 have yc := HY.out.cell
 have yl := HY.out.lt
 go_upto_region 7 with fail
 go_quiet ((go_at_call 12; exact Calls.quiet_of_same ((HR.out _).mono fun e w' h => ⟨h.1, h.2.symm⟩)))
 rename_i nq
 have hVq := below_drewN (Below.refl V3.heap.size V3) nq
 replace HX := Lib.hid (HX.out.step hVq)
 replace HZ := Lib.hid (HZ.out.step hVq)
 replace HT := Lib.hid (HT.out.below hVq)
 replace HB := Lib.hid (HB.out.trans (hVq.mono HB.out.size))
 clear hVq yc yl HY HR
 obtain ⟨V4, hV4⟩ : ∃ V, V3.drewN nq = V := ⟨_, rfl⟩
 rw [hV4] at HX HZ HT HB ⊢
 clear hV4
 rw [HTt.out]
 have htm : timedE TS 0 CS t = 0 := timedE_ok (tabE_of HK.out) (by omega)
 have hof := offT_range HK.out t
 have HLo := Lib.hid (w_Local A C cT cC TS 0 CS t V4 HT.out)
 rw [htm, localV_ok htm] at HLo
 have htl : timedE TS 0 CS (t + offT TS 0 CS t) = 0 := timedE_ok (tabE_of HK.out) (by omega)
 have HHas := Lib.hid (find_has HK.out (t := t) (by unfold lowT; omega) (by unfold highT; omega))
 have HOne := Lib.hid (fun (hn : nearB CS t = false) => find_one HK.out (t := t) (by unfold lowT; omega) (by unfold highT; omega) hn)
 have HFi := Lib.hid (fun (W : World) (h : TabAt W A C cT cC TS CS) => w_Find_ok A C cT cC TS 0 CS (t + offT TS 0 CS t) W h htl)
 obtain ⟨of, hoff⟩ : ∃ of, offT TS 0 CS t = of := ⟨_, rfl⟩
 have hof2 : (tabOf TS 0 CS t).1 = of := hoff
 rw [hof2] at HLo
 rw [hoff] at HHas HOne HFi HAt hof
 obtain ⟨FL, hFL⟩ : ∃ FL, findL (t + of) (pcAll TS 0 CS) = FL := ⟨_, rfl⟩
 rw [hFL] at HHas HOne HFi
 clear hof2 hoff htm htl hFL
 have hwO : IntKind.i64.wrap (t + of) = t + of := IntWalk.i64_in _ (by omega)
 have zc := HZ.out.cell
 have zl := HZ.out.lt
 go_wp2_with fail
 refine HLo.out.mono ?_
 rintro e w5 ⟨rfl, hb⟩
 replace HX := Lib.hid (HX.out.step hb)
 replace HZ := Lib.hid (HZ.out.step hb)
 replace HT := Lib.hid (HT.out.below hb)
 replace HB := Lib.hid (HB.out.trans (hb.mono HB.out.size))
 clear hb zc zl HLo
 have zc := HZ.out.cell
 have zl := HZ.out.lt
 go_wp2_with fail
 refine (HFi.out _ HT.out).mono ?_
 rintro e w6 ⟨v, rfl, hO, hb⟩
 replace HX := Lib.hid (HX.out.step hb)
 replace HZ := Lib.hid (HZ.out.step hb)
 replace HT := Lib.hid (HT.out.below hb)
 replace HB := Lib.hid (HB.out.trans (hb.mono HB.out.size))
 obtain ⟨A2, c2, rfl, l1, l2, hA2⟩ := own_is hO
 have HA2 := Lib.hid hA2
 clear hb zc zl HFi hO hA2
 have xc := HX.out.cell
 have xl := HX.out.lt
 go_wp2_with fail
 refine (HAt.out _ HB.out).mono ?_
 rintro e w7 ⟨rfl, hb⟩
 have hv := (Below.refl w7.heap.size w7).alloc (Nat.le_refl _) (.cells #[.int .i64 of, .bool d, .string n] 56)
 have hb2 := hb.trans (hv.mono hb.size)
 replace HZ := Lib.hid (HZ.out.step hb2)
 replace HT := Lib.hid (HT.out.below hb2)
 replace HB := Lib.hid (HB.out.trans (hb2.mono HB.out.size))
 replace HA2 := Lib.hid ((HA2.out.below hb2).more hb2.size)
 have HQ := Lib.hid (Blk.new w7 #[.int .i64 of, .bool d, .string n] 56)
 clear hb hv hb2 xc xl HAt HX
 go_upto_region 11 with fail
 obtain ⟨V7, hV⟩ : ∃ V, w7.alloc (.cells #[.int .i64 of, .bool d, .string n] 56) = V := ⟨_, rfl⟩
 obtain ⟨g7, hg⟩ : ∃ g, w7.heap.size = g := ⟨_, rfl⟩
 rw [hV] at HZ HT HB HA2 HQ ⊢
 rw [hg] at HQ ⊢
 clear hV hg
 have qc := HQ.out.cell
 have ql := HQ.out.lt
 have hne : (t + of != t + of) = false := by simp
 have HHi := Lib.hid (r_HasI A2 c2 FL t V7 HA2.out l1 l2 HHas.out)
 unfold maxLen at l2
 go_wp2_with fail
 refine HHi.out.mono ?_
 rintro e w8 ⟨rfl, rfl⟩
 clear qc ql HQ HHi HHas HA2
 have zc := HZ.out.cell
 have zl := HZ.out.lt
 have m1 := HT.out.cC
 have m2 := HT.out.mC
 unfold maxLen at m2
 go_upto_region 15 with fail
 go_loopw [20, 93] (fun sv i wr => ∃ k : Nat, k ≤ CS.length ∧ sv = .bool (nearB (CS.take k) t) ∧ i = .int .i64 k ∧ Hid (Below V7.heap.size V7 wr)) (fun _ i _ => CS.length - (intOf i).toNat)
 case atStart => exact ⟨0, Nat.zero_le _, rfl, rfl, Lib.hid (Below.refl _ _)⟩
 case round =>
  clear zc zl
  obtain ⟨k, hk, rfl, rfl, hB⟩ := hrel
  by_cases hlt : k < CS.length
  ·obtain ⟨bb, oo, rfl, hbb, d0, d1⟩ := ch_at (HT.out.C.below hB.out) hlt
   have hz := hB.out.size
   have hbb' : bb < wr.heap.size := by omega
   have hi1 : (0 : Int) ≤ (k : Int) := by omega
   have hi2 : (k : Int) < (CS.length : Int) := by omega
   have hst := near_step hlt t
   have hw1 : IntKind.i64.wrap (t - 200000) = t - 200000 := IntWalk.i64_in _ (by omega)
   have hw2 : IntKind.i64.wrap (t + 200000) = t + 200000 := IntWalk.i64_in _ (by omega)
   obtain ⟨c, hc⟩ : ∃ c, CS[k] = c := ⟨_, rfl⟩
   obtain ⟨sv, hsv⟩ : ∃ sv, nearB (CS.take k) t = sv := ⟨_, rfl⟩
   rw [hc] at d0 d1 hst
   rw [hsv] at hst ⊢
   have HSt := Lib.hid hst
   clear hst hsv hc
   cases sv with
   | true =>
    have HE := Lib.hid (show nearB (CS.take (k + 1)) t = true by rw [HSt.out]; rfl)
    clear HSt
    go_wp2_with fail
    exact ⟨⟨k + 1, by omega, by rw [HE.out], by go_num, Lib.hid (hB.out.alloc hz _)⟩, by simp only [intOf]; omega⟩
   | false =>
    by_cases q1 : t - 200000 < c.1
    ·by_cases q2 : c.1 < t + 200000
     ·have HE := Lib.hid (show nearB (CS.take (k + 1)) t = true by rw [HSt.out, Bool.false_or]; exact decide_eq_true ⟨q1, q2⟩)
      clear HSt
      go_wp2_with fail
      exact ⟨⟨k + 1, by omega, by rw [HE.out], by go_num, Lib.hid (hB.out.alloc hz _)⟩, by simp only [intOf]; omega⟩
     ·have HE := Lib.hid (show nearB (CS.take (k + 1)) t = false by rw [HSt.out, Bool.false_or]; exact decide_eq_false (fun h => q2 h.2))
      clear HSt
      go_wp2_with fail
      exact ⟨⟨k + 1, by omega, by rw [HE.out], by go_num, Lib.hid (hB.out.alloc hz _)⟩, by simp only [intOf]; omega⟩
    ·have HE := Lib.hid (show nearB (CS.take (k + 1)) t = false by rw [HSt.out, Bool.false_or]; exact decide_eq_false (fun h => q1 h.1))
     clear HSt
     go_wp2_with fail
     exact ⟨⟨k + 1, by omega, by rw [HE.out], by go_num, Lib.hid (hB.out.alloc hz _)⟩, by simp only [intOf]; omega⟩
  ·obtain rfl : k = CS.length := by omega
   have hi2 : ¬ ((CS.length : Int) < (CS.length : Int)) := by omega
   rw [List.take_length]
   have HBf := Lib.hid (HB.out.trans (hB.out.mono HB.out.size))
   obtain ⟨sv, hsv⟩ : ∃ sv, nearB CS t = sv := ⟨_, rfl⟩
   have HSv := Lib.hid hsv
   rw [hsv]
   clear hsv hlt hk
   cases sv with
   | true =>
    go_wp2_with fail
    go_ret
    exact ⟨rfl, HBf.out⟩
   | false =>
    have h1 := HOne.out HSv.out
    have h1' : ((FL.length : Int) == 1) = true := by rw [beq_iff_eq]; omega
    clear h1
    go_wp2_with fail
    go_ret
    exact ⟨ret_bool (by simp), HBf.out⟩
theorem walk (D : BkD) (nm : ByteArray) (hnm : nm.size ≤ maxLen) (fr : Int) (wf1 : (Lit.int .i64 fr).wf = true) (long : Int) (wf2 : (Lit.int .i64 long).wf = true) (at_ : Int) (wf3 : (Lit.int .i64 at_).wf = true) (w : World) (HB : BkOk w w.heap.size D) (hSO : w.ShapedOpen Tryz.prog) (hL : laidMet Tryz.prog Rows.topWallRow.laid w) :
  Calls Tryz.prog 5 #[.agg D.v, .string nm, .int .i64 fr, .int .i64 long, .int .i64 at_] w fun e w' => e = .returned (.bool true) ∧ Below w.heap.size w w' := by
 have h1 := wf_bd wf1
 have h2 := wf_bd wf2
 have h3 := wf_bd wf3
 exact walk' D.AR D.AZ D.AL D.cR D.cZ D.cL D.rs D.zs D.ls nm hnm fr long at_ h1.1 h1.2 h2.1 h2.2 h3.1 h3.2 w HB (rp_of_laid w hSO hL)
theorem door_met (os : Os) (args : Array Value) : laidMetH Tryz.prog Rows.topWallRow.laid ((World.laidAll Tryz.prog os Rows.topWallRow.laid).forCall (fun _ _ => 0) ⟨#[], args, []⟩).memory := by
 rw [MakeChecks.laidMetH_plain _ _ _ (by kernel_rfl)]
 exact laidMet_laidAll args (by kernel_rfl) (by kernel_rfl)
set_option maxRecDepth 100000 in
theorem lifted (os : Os) (started : os.Started) (H : Type) (enc : TypeId × Value → H) :
  ReturnsInHanded {} Tryz.checked os 5 .any (fun w args => (Rows.topWallSpec.pre enc Tryz.prog Tryz.f5 [] false w args ∧ laidMetH Tryz.prog Rows.topWallRow.laid w) ∧ sizedMet enc Tryz.prog Tryz.f5 (OpenSpec.ofChange Rows.topWallSpec) false w args)
   (Rows.topWallSpec.post enc Tryz.prog Tryz.f5 false true false false) := by
 refine lift_shaped (C := Tryz.checked) (X := fun w _ => laidMetH Tryz.prog Rows.topWallRow.laid w) (fun _ _ _ hh h => h.of_heap hh) own started (by kernel_rfl) Tryz.func5
  (ChangeSpec.witness_shaped (enc := enc) (C := Tryz.checked) (os := os) (X := fun w _ => laidMetH Tryz.prog Rows.topWallRow.laid w) false (World.laidAll Tryz.prog os Rows.topWallRow.laid) #[.agg #[.slice none 0 0, .slice none 0 0, .slice none 0 0], .string ⟨#[]⟩, .int .i64 0, .int .i64 0, .int .i64 0] 8 (World.laidAll_os _ _ _) (World.shaped_of_ZipB (by kernel_rfl) (by kernel_rfl)) (by kernel_rfl) (by kernel_rfl) (by kernel_rfl) (door_met os _)) ?_
 intro W base args ds gs before hval0 hW hL hSO
 rw [MakeChecks.laidMetH_plain _ _ _ (by kernel_rfl)] at hL
 have hval : ∀ (j : Nat) t v, Tryz.f5.params[j]? = some t → args[j]? = some v → Value.okWide Tryz.prog W .any base t v := hval0
 have hW' := hW
 have hltW : ∀ x ∈ before, x.block < W.heap.size := fun x hx => by simpa using hW.lt x hx
 obtain ⟨p, q, hA0, hV, rfl, hfz, hnd⟩ := hW
 have hlt : ∀ x ∈ p, x.block < W.heap.size := fun x hx => hltW x (by simp [hx])
 clear hltW
 have hA : DataW.TrodAll enc Tryz.prog W 0 (fun _ => true) true Tryz.f5.params.toList args.toList ds p := hA0
 rw [Tryz.params5] at hA hval
 obtain ⟨v0, vs0, d0, ds0, p0, q0, hargs, rfl, rfl, h0, r0⟩ := trodAll_cons hA
 obtain ⟨v1, vs1, d1, ds1, p1, q1, rfl, rfl, rfl, h1, r1⟩ := trodAll_cons r0
 obtain ⟨v2, vs2, d2, ds2, p2, q2, rfl, rfl, rfl, h2, r2⟩ := trodAll_cons r1
 obtain ⟨v3, vs3, d3, ds3, p3, q3, rfl, rfl, rfl, h3, r3⟩ := trodAll_cons r2
 obtain ⟨v4, vs4, d4, ds4, p4, q4, rfl, rfl, rfl, h4, r4⟩ := trodAll_cons r3
 obtain ⟨rfl, rfl, rfl⟩ := trodAll_nil r4
 obtain rfl : args = #[v0, v1, v2, v3, v4] := by cases args; simp_all
 obtain ⟨rfl, rfl⟩ := trodVars_none hV
 obtain ⟨D0, rfl, HB0⟩ := val_book (hval 0 26 v0 rfl rfl) h0
 obtain ⟨a1, rfl, rfl, rfl, w1⟩ := Go.ChangeMaps.open_string Tryz.underlying9 (hval 1 9 v1 rfl rfl) h1
 obtain ⟨a2, rfl, rfl, rfl, w2⟩ := open_int Tryz.underlying3 (hval 2 3 v2 rfl rfl) h2
 obtain ⟨a3, rfl, rfl, rfl, w3⟩ := open_int Tryz.underlying3 (hval 3 3 v3 rfl rfl) h3
 obtain ⟨a4, rfl, rfl, rfl, w4⟩ := open_int Tryz.underlying3 (hval 4 3 v4 rfl rfl) h4
 clear hA0 hval0
 refine (walk D0 a1 w1 a2 w2 a3 w3 a4 w4 W HB0 hSO hL).mono fun e W' ⟨he, hg⟩ => ?_
 subst he
 exact ⟨_, rfl, law_post rfl hW' rfl rfl rfl rfl (by rw [Tryz.params5]; decide +kernel) hg⟩

theorem proved : Rows.TopWallSaid :=
 OpenClaim.holds_of_wide 5 Tryz.f5 rfl rfl rfl rfl rfl rfl rfl ⟨rfl, rfl, rfl, rfl, rfl⟩ rfl rfl rfl rfl rfl (by kernel_rfl) Tryz.func5 (by kernel_rfl)
  (of_decide_eq_true (by kernel_rfl)) (by unfold Func.isWrapper; first | (rw [if_pos (by decide +kernel)]; kernel_rfl) | (rw [if_neg (by decide +kernel)]; exact ⟨rfl, rfl⟩))
  (fun os started H enc _ => lifted os started H enc)
theorem card : Rows.TopWallCardSaid :=
 Claim7.holds_tied_plain_at .later [] [.data, .data, .data, .data, .sentinel, .sentinel, .listed, .data, .pinned] true (true, "9e945dfe7ebd4edced2baa8d77d8df4c2a5c8ee73fd994a3e3e08430af2b5d2f") true
  proved (fun _ h => by cases h) (by kernel_rfl) (fun _ h => by cases h) topWall_row_tie rfl ⟨rfl, rfl⟩ (by kernel_rfl) rfl
  (fun f fn hf hfn => by
   obtain rfl : f = 5 := Option.some.inj ((show Tryz.prog.funcNamed "timeball/timeballtop.TopWall" = some 5 by kernel_rfl).symm.trans hf) |>.symm
   obtain rfl : fn = Tryz.f5 := (Option.some.inj (Tryz.func5.symm.trans hfn)).symm
   exact ⟨by kernel_rfl, fun j t ht => by
    have hm := Array.mem_of_getElem? ht
    have hall : (Tryz.f5.params.toList.all fun u => !Tryz.prog.wantsStandIn u) = true := by kernel_rfl
    exact (show Tryz.prog.wantsStandIn t = false by simpa using List.all_eq_true.1 hall t (by simpa using hm))⟩)
  (by kernel_rfl)
end Go.Proofs.YthppifcggmdmoaaGreatDoor.topWall

