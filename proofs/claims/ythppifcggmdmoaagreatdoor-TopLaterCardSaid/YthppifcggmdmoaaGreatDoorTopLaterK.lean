/- The law TopLater holds at every input: the same second of the next day comes a day later, or clocks were set in between. No condition. -/
import Derived.Test.YthppifcggmdmoaaGreatDoorK04
import Derived.Test.YthppifcggmdmoaaGreatDoorK08
import Derived.Test.YthppifcggmdmoaaGreatDoorK39
import Derived.Test.YthppifcggmdmoaaGreatDoorK42
import Derived.Test.YthppifcggmdmoaaGreatDoorK43
import Derived.Test.YthppifcggmdmoaaGreatDoorCards
import Derived.Test.YthppifcggmdmoaaGreatDoorTie
import Derived.LaidMore
import Derived.OpenShut
import Derived.Stop.Joined
import Derived.SevenTiedAt
import Derived.Lay
import Derived.MakeChecks
import Derived.Deep.DeepHandedRow
namespace Go.Proofs.YthppifcggmdmoaaGreatDoor.topLater
open Go.ChangeShapes Go.WideShapes Go.ChangeAt Go.RowKit
set_option linter.unusedVariables false
set_option linter.unusedSimpArgs false
attribute [local go_sem ↓] Go.wp_at_zero Go.wp_at_succ
set_option maxRecDepth 100000 in
theorem sp_of_laid {W : World} {r : List (String × DataW Unit)} (h : laidMet Tryz.prog (("strings.asciiSpace", Rows.laid_strings_asciiSpace) :: r) W) : Lib.TabIs Tryz.prog W "strings.asciiSpace" .u8 Lib.asciiSpaceTab :=
 Lib.tabIs_of_head (k := .u8) (zs := Lib.asciiSpaceTab) (g := 1) (n := 256) (by kernel_rfl) (by kernel_rfl) Tryz.underlying223 Tryz.underlying5 (by kernel_rfl) (by kernel_rfl) h
theorem rp_of_laid (w : World) (hSO : w.ShapedOpen Tryz.prog) (hL : laidMet Tryz.prog Rows.topLaterRow.laid w) : RpW w := by
 have es := es_of_laid (laidMet.tail (laidMet.tail (laidMet.tail (laidMet.tail (laidMet.tail hL)))))
 have er := er_of_laid (laidMet.tail (laidMet.tail (laidMet.tail (laidMet.tail hL))))
 have HT := tab_of_laid (laidMet.tail (laidMet.tail hL))
 exact RpW.mk (RdX.mk es er (Tryz.laysM145.s1_3 w hSO)) (RdW.mk es er (fun y hy => itoa_tab w y (by omega) HT)) (trim_tab w (sp_of_laid (laidMet.tail (laidMet.tail (laidMet.tail (laidMet.tail (laidMet.tail (laidMet.tail (laidMet.tail hL)))))))))
theorem wf_bd {n : Int} (h : (Lit.int .i64 n).wf = true) : -9223372036854775808 ≤ n ∧ n ≤ 9223372036854775807 := by
 simp [Lit.wf, IntKind.min, IntKind.max, IntKind.signed, IntKind.bits] at h; omega
theorem set_step {cs : List Ch} {k : Nat} (h : k < cs.length) (after a b : Int) : setIn (cs.take (k + 1)) after a b = (setIn (cs.take k) after a b || decide ((a < cs[k].1 ∧ cs[k].1 ≤ b) ∨ (after < cs[k].1 ∧ cs[k].1 ≤ a))) := by
 unfold setIn
 rw [List.take_succ_eq_append_getElem h, List.any_append]
 simp
set_option maxRecDepth 100000 in
set_option maxHeartbeats 8000000 in
theorem walk' (A C : Option Addr) (capT capC : Nat) (ts : List Ty) (first : Int) (cs : List Ch) (after second : Int) (a1 : -9223372036854775808 ≤ after) (a2 : after ≤ 9223372036854775807) (b1 : -9223372036854775808 ≤ second) (b2 : second ≤ 9223372036854775807) (w : World) (H : TabAt w A C capT capC ts cs) (P : RpW w) :
  Calls Tryz.prog 4 #[.agg #[.slice A ts.length capT, .int .i64 first, .slice C cs.length capC], .int .i64 after, .int .i64 second] w fun e w' => e = .returned (.bool true) ∧ Below w.heap.size w w' := by
 have hb0 := (Below.refl w.heap.size w).alloc (Nat.le_refl _) (.cells #[.slice A ts.length capT, .int .i64 first, .slice C cs.length capC] 37)
 have HX := Lib.hid (Blk.new w #[.slice A ts.length capT, .int .i64 first, .slice C cs.length capC] 37)
 have HB := Lib.hid hb0
 have HP := Lib.hid (P.on hb0)
 have HT := Lib.hid (H.below hb0)
 have m1 := H.cC
 have m2 := H.mC
 unfold maxLen at m2
 clear P H hb0
 obtain ⟨V, hV⟩ : ∃ V, w.alloc (.cells #[.slice A ts.length capT, .int .i64 first, .slice C cs.length capC] 37) = V := ⟨_, rfl⟩
 obtain ⟨g, hg⟩ : ∃ g, w.heap.size = g := ⟨_, rfl⟩
 have HG := Lib.hid hg
 rw [hV] at HX HB HP HT
 rw [hg] at HX
 have HW := Lib.hid (t_works V HP.out)
 go_enter Tryz.func4, Tryz.ntmps4
 go_wp2_with fail
 try rw [hV]
 try rw [hg]
 clear hV hg
 refine HW.out.mono ?_
 rintro e w1 ⟨rfl, hb⟩
 replace HX := Lib.hid (HX.out.step hb)
 replace HT := Lib.hid (HT.out.below hb)
 replace HB := Lib.hid (HB.out.trans (hb.mono HB.out.size))
 clear hb HW HP
 have HC := Lib.hid (t_Check A C capT capC ts first cs w1 HT.out)
 have xc := HX.out.cell
 have xl := HX.out.lt
 go_wp2_with fail
 refine HC.out.mono ?_
 rintro e w2 ⟨rfl, hb⟩
 replace HX := Lib.hid (HX.out.step hb)
 replace HT := Lib.hid (HT.out.below hb)
 replace HB := Lib.hid (HB.out.trans (hb.mono HB.out.size))
 clear hb HC xc xl
 obtain ⟨te, hte⟩ : ∃ te, tabE ts first cs = te := ⟨_, rfl⟩
 have HTe := Lib.hid hte
 rw [hte]
 clear hte
 by_cases h0 : te = 0
 rotate_left
 ·have h0' : (te != 0) = true := bne_iff_ne.2 h0
  clear h0
  go_wp2_with fail
  go_ret
  exact ⟨rfl, HB.out⟩
 subst h0
 have HK := Lib.hid (tabOk HTe.out)
 have HR1 := Lib.hid (rest_M after 600000 a1 a2 (by omega) (by omega) w2)
 go_wp2_with fail
 refine HR1.out.mono ?_
 rintro e w3 ⟨rfl, rfl⟩
 obtain ⟨r, hr⟩ : ∃ r, after % 600000 = r := ⟨_, rfl⟩
 have hr1 : 0 ≤ r ∧ r < 600000 := by omega
 obtain ⟨hr1, hr2⟩ := hr1
 rw [hr]
 have hwr : IntKind.i64.wrap (r - 300000) = r - 300000 := IntWalk.i64_in _ (by omega)
 have HR2 := Lib.hid (rest_M second 86400 b1 b2 (by omega) (by omega) w2)
 clear hr HR1 a1 a2 b1 b2
 go_wp2_with fail
 refine HR2.out.mono ?_
 rintro e w3 ⟨rfl, rfl⟩
 obtain ⟨sc, hsc⟩ : ∃ r, second % 86400 = r := ⟨_, rfl⟩
 have hs1 : 0 ≤ sc ∧ sc < 86400 := by omega
 obtain ⟨hs1, hs2⟩ := hs1
 rw [hsc]
 obtain ⟨af, haf⟩ : ∃ x, r - 300000 = x := ⟨_, rfl⟩
 have hf1 : -300000 ≤ af ∧ af < 300000 := by omega
 obtain ⟨hf1, hf2⟩ := hf1
 have HRr := Lib.hid haf
 clear hsc HR2
 have HN1 := Lib.hid (w_Next_ok A C capT capC ts first cs af sc w2 HT.out (timedE_ok HTe.out (by omega)) hs1 hs2)
 have xc := HX.out.cell
 have xl := HX.out.lt
 go_wp2_with fail
 refine HN1.out.mono ?_
 rintro e w3 ⟨a, rfl, ha, hb⟩
 have hcl := HK.out.cmax
 have hab := ha.gt
 have hna := nx_near hs1 hs2 ha
 have ha2 : a ≤ 1099511627776 := by omega
 have HA := Lib.hid ha
 replace HX := Lib.hid (HX.out.step hb)
 replace HT := Lib.hid (HT.out.below hb)
 replace HB := Lib.hid (HB.out.trans (hb.mono HB.out.size))
 clear hb HN1 xc xl ha hna
 have HN2 := Lib.hid (w_Next_ok A C capT capC ts first cs a sc w3 HT.out (timedE_ok HTe.out (by omega)) hs1 hs2)
 have xc := HX.out.cell
 have xl := HX.out.lt
 go_wp2_with fail
 refine HN2.out.mono ?_
 rintro e w4 ⟨b, rfl, hb', hb⟩
 have hbc := hb'.gt
 have hb2 := hb'.hi
 have HBn := Lib.hid hb'
 replace HX := Lib.hid (HX.out.step hb)
 replace HT := Lib.hid (HT.out.below hb)
 replace HB := Lib.hid (HB.out.trans (hb.mono HB.out.size))
 clear hb HN2 xc xl hb'
 have xc := HX.out.cell
 have xl := HX.out.lt
 have hna : ¬ a ≤ af := by omega
 have hnb : ¬ b ≤ a := by omega
 have hwa : IntKind.i64.wrap (a + 86400) = a + 86400 := IntWalk.i64_in _ (by omega)
 have hwf : IntKind.i64.wrap (af + 86400) = af + 86400 := IntWalk.i64_in _ (by omega)
 go_upto_region 12 with fail
 go_loopw [11, 57] (fun sv i wr => ∃ k : Nat, k ≤ cs.length ∧ sv = .bool (setIn (cs.take k) af a b) ∧ i = .int .i64 k ∧ Hid (Below w4.heap.size w4 wr)) (fun _ i _ => cs.length - (intOf i).toNat)
 case atStart => exact ⟨0, Nat.zero_le _, rfl, rfl, Lib.hid (Below.refl _ _)⟩
 case round =>
  clear xc xl
  obtain ⟨k, hk, rfl, rfl, hB⟩ := hrel
  by_cases hlt : k < cs.length
  ·obtain ⟨bb, oo, rfl, hbb, c0, c1⟩ := ch_at (HT.out.C.below hB.out) hlt
   have hz := hB.out.size
   have hbb' : bb < wr.heap.size := by omega
   have hi1 : (0 : Int) ≤ (k : Int) := by omega
   have hi2 : (k : Int) < (cs.length : Int) := by omega
   have hst := set_step hlt af a b
   obtain ⟨c, hc⟩ : ∃ c, cs[k] = c := ⟨_, rfl⟩
   obtain ⟨sv, hsv⟩ : ∃ sv, setIn (cs.take k) af a b = sv := ⟨_, rfl⟩
   rw [hc] at c0 c1 hst
   rw [hsv] at hst ⊢
   have HSt := Lib.hid hst
   clear hst hsv hc
   cases sv with
   | true =>
    have HE := Lib.hid (show setIn (cs.take (k + 1)) af a b = true by rw [HSt.out]; rfl)
    clear HSt
    go_wp2_with fail
    exact ⟨⟨k + 1, by omega, by rw [HE.out], by go_num, Lib.hid (hB.out.alloc hz _)⟩, by simp only [intOf]; omega⟩
   | false =>
    by_cases q1 : a < c.1
    ·by_cases q2 : c.1 ≤ b
     ·have HE := Lib.hid (show setIn (cs.take (k + 1)) af a b = true by rw [HSt.out, Bool.false_or]; exact decide_eq_true (by omega))
      clear HSt
      go_wp2_with fail
      exact ⟨⟨k + 1, by omega, by rw [HE.out], by go_num, Lib.hid (hB.out.alloc hz _)⟩, by simp only [intOf]; omega⟩
     ·have q3 : af < c.1 := by omega
      have q4 : ¬ c.1 ≤ a := by omega
      have HE := Lib.hid (show setIn (cs.take (k + 1)) af a b = false by rw [HSt.out, Bool.false_or]; exact decide_eq_false (by omega))
      clear HSt
      go_wp2_with fail
      exact ⟨⟨k + 1, by omega, by rw [HE.out], by go_num, Lib.hid (hB.out.alloc hz _)⟩, by simp only [intOf]; omega⟩
    ·by_cases q3 : af < c.1
     ·have q4 : c.1 ≤ a := by omega
      have HE := Lib.hid (show setIn (cs.take (k + 1)) af a b = true by rw [HSt.out, Bool.false_or]; exact decide_eq_true (by omega))
      clear HSt
      go_wp2_with fail
      exact ⟨⟨k + 1, by omega, by rw [HE.out], by go_num, Lib.hid (hB.out.alloc hz _)⟩, by simp only [intOf]; omega⟩
     ·have HE := Lib.hid (show setIn (cs.take (k + 1)) af a b = false by rw [HSt.out, Bool.false_or]; exact decide_eq_false (by omega))
      clear HSt
      go_wp2_with fail
      exact ⟨⟨k + 1, by omega, by rw [HE.out], by go_num, Lib.hid (hB.out.alloc hz _)⟩, by simp only [intOf]; omega⟩
  ·obtain rfl : k = cs.length := by omega
   have hi2 : ¬ ((cs.length : Int) < (cs.length : Int)) := by omega
   rw [List.take_length]
   have HBf := Lib.hid (HB.out.trans (hB.out.mono HB.out.size))
   obtain ⟨sv, hsv⟩ : ∃ sv, setIn cs af a b = sv := ⟨_, rfl⟩
   have HSv := Lib.hid hsv
   rw [hsv]
   clear hsv hlt hk
   cases sv with
   | true =>
    go_wp2_with fail
    go_ret
    exact ⟨rfl, HBf.out⟩
   | false =>
    obtain ⟨q1, q2⟩ := later_law hs1 hs2 (by omega) HA.out HBn.out HSv.out
    have q1' : (b == a + 86400) = true := beq_iff_eq.2 q1
    clear q1
    go_wp2_with fail
    go_ret
    exact ⟨ret_bool (by simp), HBf.out⟩
theorem walk (A C : Option Addr) (capT capC : Nat) (ts : List Ty) (first : Int) (cs : List Ch) (after : Int) (wf1 : (Lit.int .i64 after).wf = true) (second : Int) (wf2 : (Lit.int .i64 second).wf = true) (w : World) (H : TabAt w A C capT capC ts cs) (hSO : w.ShapedOpen Tryz.prog) (hL : laidMet Tryz.prog Rows.topLaterRow.laid w) :
  Calls Tryz.prog 4 #[.agg #[.slice A ts.length capT, .int .i64 first, .slice C cs.length capC], .int .i64 after, .int .i64 second] w fun e w' => e = .returned (.bool true) ∧ Below w.heap.size w w' := by
 have h1 := wf_bd wf1
 have h2 := wf_bd wf2
 exact walk' A C capT capC ts first cs after second h1.1 h1.2 h2.1 h2.2 w H (rp_of_laid w hSO hL)
theorem door_met (os : Os) (args : Array Value) : laidMetH Tryz.prog Rows.topLaterRow.laid ((World.laidAll Tryz.prog os Rows.topLaterRow.laid).forCall (fun _ _ => 0) ⟨#[], args, []⟩).memory := by
 rw [MakeChecks.laidMetH_plain _ _ _ (by kernel_rfl)]
 exact laidMet_laidAll args (by kernel_rfl) (by kernel_rfl)
set_option maxRecDepth 100000 in
theorem lifted (os : Os) (started : os.Started) (H : Type) (enc : TypeId × Value → H) :
  ReturnsInHanded {} Tryz.checked os 4 .any (fun w args => (Rows.topLaterSpec.pre enc Tryz.prog Tryz.f4 [] false w args ∧ laidMetH Tryz.prog Rows.topLaterRow.laid w) ∧ sizedMet enc Tryz.prog Tryz.f4 (OpenSpec.ofChange Rows.topLaterSpec) false w args)
   (Rows.topLaterSpec.post enc Tryz.prog Tryz.f4 false true false false) := by
 refine lift_shaped (C := Tryz.checked) (X := fun w _ => laidMetH Tryz.prog Rows.topLaterRow.laid w) (fun _ _ _ hh h => h.of_heap hh) own started (by kernel_rfl) Tryz.func4
  (ChangeSpec.witness_shaped (enc := enc) (C := Tryz.checked) (os := os) (X := fun w _ => laidMetH Tryz.prog Rows.topLaterRow.laid w) false (World.laidAll Tryz.prog os Rows.topLaterRow.laid) #[.agg #[.slice none 0 0, .int .i64 0, .slice none 0 0], .int .i64 0, .int .i64 0] 8 (World.laidAll_os _ _ _) (World.shaped_of_ZipB (by kernel_rfl) (by kernel_rfl)) (by kernel_rfl) (by kernel_rfl) (by kernel_rfl) (door_met os _)) ?_
 intro W base args ds gs before hval0 hW hL hSO
 rw [MakeChecks.laidMetH_plain _ _ _ (by kernel_rfl)] at hL
 have hval : ∀ (j : Nat) t v, Tryz.f4.params[j]? = some t → args[j]? = some v → Value.okWide Tryz.prog W .any base t v := hval0
 have hW' := hW
 have hltW : ∀ x ∈ before, x.block < W.heap.size := fun x hx => by simpa using hW.lt x hx
 obtain ⟨p, q, hA0, hV, rfl, hfz, hnd⟩ := hW
 have hlt : ∀ x ∈ p, x.block < W.heap.size := fun x hx => hltW x (by simp [hx])
 clear hltW
 have hA : DataW.TrodAll enc Tryz.prog W 0 (fun _ => true) true Tryz.f4.params.toList args.toList ds p := hA0
 rw [Tryz.params4] at hA hval
 obtain ⟨v0, vs0, d0, ds0, p0, q0, hargs, rfl, rfl, h0, r0⟩ := trodAll_cons hA
 obtain ⟨v1, vs1, d1, ds1, p1, q1, rfl, rfl, rfl, h1, r1⟩ := trodAll_cons r0
 obtain ⟨v2, vs2, d2, ds2, p2, q2, rfl, rfl, rfl, h2, r2⟩ := trodAll_cons r1
 obtain ⟨rfl, rfl, rfl⟩ := trodAll_nil r2
 obtain rfl : args = #[v0, v1, v2] := by cases args; simp_all
 obtain ⟨rfl, rfl⟩ := trodVars_none hV
 obtain ⟨A0, C0, cT0, cC0, ts0, fi0, cs0, rfl, HT0, wf0, wt0, wc0⟩ := val_table (hval 0 37 v0 rfl rfl) h0
 obtain ⟨a1, rfl, rfl, rfl, w1⟩ := open_int Tryz.underlying3 (hval 1 3 v1 rfl rfl) h1
 obtain ⟨a2, rfl, rfl, rfl, w2⟩ := open_int Tryz.underlying3 (hval 2 3 v2 rfl rfl) h2
 clear hA0 hval0
 refine (walk A0 C0 cT0 cC0 ts0 fi0 cs0 a1 w1 a2 w2 W HT0 hSO hL).mono fun e W' ⟨he, hg⟩ => ?_
 subst he
 exact ⟨_, rfl, law_post rfl hW' rfl rfl rfl rfl (by rw [Tryz.params4]; decide +kernel) hg⟩

theorem proved : Rows.TopLaterSaid :=
 OpenClaim.holds_of_wide 4 Tryz.f4 rfl rfl rfl rfl rfl rfl rfl ⟨rfl, rfl, rfl, rfl, rfl⟩ rfl rfl rfl rfl rfl (by kernel_rfl) Tryz.func4 (by kernel_rfl)
  (of_decide_eq_true (by kernel_rfl)) (by unfold Func.isWrapper; first | (rw [if_pos (by decide +kernel)]; kernel_rfl) | (rw [if_neg (by decide +kernel)]; exact ⟨rfl, rfl⟩))
  (fun os started H enc _ => lifted os started H enc)
theorem card : Rows.TopLaterCardSaid :=
 Claim7.holds_tied_plain_at .later [] [.data, .data, .data, .data, .sentinel, .sentinel, .listed, .data, .pinned] true (true, "9e945dfe7ebd4edced2baa8d77d8df4c2a5c8ee73fd994a3e3e08430af2b5d2f") true
  proved (fun _ h => by cases h) (by kernel_rfl) (fun _ h => by cases h) topLater_row_tie rfl ⟨rfl, rfl⟩ (by kernel_rfl) rfl
  (fun f fn hf hfn => by
   obtain rfl : f = 4 := Option.some.inj ((show Tryz.prog.funcNamed "timeball/timeballtop.TopLater" = some 4 by kernel_rfl).symm.trans hf) |>.symm
   obtain rfl : fn = Tryz.f4 := (Option.some.inj (Tryz.func4.symm.trans hfn)).symm
   exact ⟨by kernel_rfl, fun j t ht => by
    have hm := Array.mem_of_getElem? ht
    have hall : (Tryz.f4.params.toList.all fun u => !Tryz.prog.wantsStandIn u) = true := by kernel_rfl
    exact (show Tryz.prog.wantsStandIn t = false by simpa using List.all_eq_true.1 hall t (by simpa using hm))⟩)
  (by kernel_rfl)
end Go.Proofs.YthppifcggmdmoaaGreatDoor.topLater

