/- The law NamesAll holds at every input: All returns what the reference returns. No condition. -/
import Derived.Test.YthkiohemolndeaaGreatDoorOpn
import Derived.Test.YthkiohemolndeaaGreatDoorDoorK
import Derived.Test.YthkiohemolndeaaGreatDoorOpenBk
import Derived.Test.YthkiohemolndeaaGreatDoorBcJ
import Derived.Test.YthkiohemolndeaaGreatDoorNr
import Derived.Test.YthkiohemolndeaaGreatDoorNaA
import Derived.Test.YthkiohemolndeaaGreatDoorNaE
import Derived.Test.YthkiohemolndeaaGreatDoorNaS
import Derived.Test.YthkiohemolndeaaGreatDoorCards
import Derived.Test.YthkiohemolndeaaGreatDoorTie
import Derived.LaidMore
import Derived.OpenShut
import Derived.Stop.Joined
import Derived.SevenTiedAt
import Derived.Lay
import Derived.MakeChecks
namespace Go.Proofs.YthkiohemolndeaaGreatDoor.namesAll
open Go.ChangeShapes Go.WideShapes Go.ChangeAt Go.RowKit
set_option linter.unusedVariables false
set_option linter.unusedSimpArgs false
attribute [local go_sem ↓] Go.wp_at_zero Go.wp_at_succ
theorem n_const (w : World) (HI : EraIn w) :
    Calls Tryz.prog 7 #[.agg #[.slice none 0 0, .slice none 0 0, .slice none 0 0], .string ⟨#[97]⟩] w fun e w' => e = .returned (.tuple #[.agg #[.string ⟨#[]⟩, .slice none 0 0], .int .i64 6]) ∧ Below w.heap.size w w' :=
  n_Resolve_e none none none 0 0 0 [] [] [] ⟨#[97]⟩ (show (1 : Nat) ≤ maxLen by unfold maxLen; omega) w
    ⟨SlAt.none_ _ _ _ _, SlAt.none_ _ _ _ _, SlAt.none_ _ _ _ _, by simp, by simp, by simp, by unfold maxLen; simp, by unfold maxLen; simp, by unfold maxLen; simp, by simp, by simp, by simp⟩ HI rfl 6 rfl
theorem slat_step {w w' : World} {n : Nat} {A : Option Addr} {xs : List (List Value)} (h : SlAt w w.heap.size n A xs) (hb : Below w.heap.size w w') : SlAt w' w'.heap.size n A xs := (h.below hb).more hb.size
set_option maxRecDepth 100000 in
set_option maxHeartbeats 4000000 in
theorem walk_no (AR AZ AL : Option Addr) (cR cZ cL : Nat) (rs : List RuT) (zs : List ZoT) (ls : List LkT) (w : World) (H : BkOk w w.heap.size ⟨AR, AZ, AL, cR, cZ, cL, rs, zs, ls⟩) (HI : EraIn w) (n : Int) (h : bookE rs zs ls = n) (h0 : n ≠ 0) :
    Calls Tryz.prog 3 #[.agg #[.slice AR rs.length cR, .slice AZ zs.length cZ, .slice AL ls.length cL]] w fun e w' => e = .returned (.bool true) ∧ Below w.heap.size w w' := by
  have HN := Lib.hid (fun (V : World) (hb : Below w.heap.size w V) => n_All_no AR AZ AL cR cZ cL rs zs ls n V (H.step hb) (HI.on hb) h h0)
  have HR := Lib.hid (fun (V : World) (hb : Below w.heap.size w V) => (show Calls Tryz.prog 8 #[.agg #[.slice AR rs.length cR, .slice AZ zs.length cZ, .slice AL ls.length cL]] V fun e w' => e = .returned (.int .i64 n) ∧ Below V.heap.size V w' from by rw [← h]; exact r_BookCheck' AR AZ AL cR cZ cL rs zs ls V (H.step hb)))
  have HO := Lib.hid (fun (V : World) (hb : Below w.heap.size w V) => n_const V (HI.on hb))
  have h2 : (n != 0) = true := by rw [bne_iff_ne]; exact h0
  have hb0 := (Below.refl w.heap.size w).alloc (Nat.le_refl _) (.cells #[.slice AR rs.length cR, .slice AZ zs.length cZ, .slice AL ls.length cL] 26)
  have HK := Lib.hid (Blk.new w #[.slice AR rs.length cR, .slice AZ zs.length cZ, .slice AL ls.length cL] 26)
  have HB := Lib.hid hb0
  clear H HI hb0 h h0
  go_enter Tryz.func3, Tryz.ntmps3
  go_wp2_with fail
  refine (HN.out _ HB.out).mono ?_
  rintro e w2 ⟨rfl, hb2⟩
  replace HB := Lib.hid (HB.out.trans (hb2.mono HB.out.size))
  replace HK := Lib.hid (HK.out.step hb2)
  clear hb2
  go_wp2_with fail
  refine (HO.out _ HB.out).mono ?_
  rintro e w3 ⟨rfl, hb3⟩
  have hb4 := hb3.alloc hb3.size (.cells #[.string ⟨#[]⟩, .slice none 0 0] 33)
  replace HB := Lib.hid (HB.out.trans (hb4.mono HB.out.size))
  replace HK := Lib.hid (HK.out.step hb4)
  clear hb3 hb4
  have k0 := HK.out.cell 0
  have k1 := HK.out.cell 1
  have k2 := HK.out.cell 2
  have kl := HK.out.lt
  simp at k0 k1 k2
  go_wp2_with fail
  refine (HR.out _ HB.out).mono ?_
  rintro e w5 ⟨rfl, hb5⟩
  replace HB := Lib.hid (HB.out.trans (hb5.mono HB.out.size))
  clear hb5 k0 k1 k2 kl
  go_wp2_with fail
  go_ret
  exact ⟨ret_bool (by simp), HB.out⟩
set_option maxRecDepth 100000 in
set_option maxHeartbeats 4000000 in
theorem walk_ok (AR AZ AL : Option Addr) (cR cZ cL : Nat) (rs : List RuT) (zs : List ZoT) (ls : List LkT) (w : World) (H : BkOk w w.heap.size ⟨AR, AZ, AL, cR, cZ, cL, rs, zs, ls⟩) (HI : EraIn w) (h : bookE rs zs ls = 0) :
    Calls Tryz.prog 3 #[.agg #[.slice AR rs.length cR, .slice AZ zs.length cZ, .slice AL ls.length cL]] w fun e w' => e = .returned (.bool true) ∧ Below w.heap.size w w' := by
  have HN := Lib.hid (fun (V : World) (hb : Below w.heap.size w V) => n_All_ok AR AZ AL cR cZ cL rs zs ls V (H.step hb) (HI.on hb) h)
  have HR := Lib.hid (fun (V : World) (hb : Below w.heap.size w V) => (show Calls Tryz.prog 8 #[.agg #[.slice AR rs.length cR, .slice AZ zs.length cZ, .slice AL ls.length cL]] V fun e w' => e = .returned (.int .i64 0) ∧ Below V.heap.size V w' from by rw [← h]; exact r_BookCheck' AR AZ AL cR cZ cL rs zs ls V (H.step hb)))
  have HRN := Lib.hid (fun (V : World) (hb : Below w.heap.size w V) => r_Names AR AZ AL cR cZ cL rs zs ls V (H.step hb) h)
  have HO := Lib.hid (fun (V : World) (hb : Below w.heap.size w V) => n_const V (HI.on hb))
  have hb0 := (Below.refl w.heap.size w).alloc (Nat.le_refl _) (.cells #[.slice AR rs.length cR, .slice AZ zs.length cZ, .slice AL ls.length cL] 26)
  have HK := Lib.hid (Blk.new w #[.slice AR rs.length cR, .slice AZ zs.length cZ, .slice AL ls.length cL] 26)
  have HB := Lib.hid hb0
  clear H HI hb0 h
  go_enter Tryz.func3, Tryz.ntmps3
  go_wp2_with fail
  refine (HN.out _ HB.out).mono ?_
  rintro e w2 ⟨v, LL, rfl, hL, hv, hb2⟩
  obtain ⟨S, hS⟩ : ∃ S, (LL.mergeSort fun x y => decide (x ≤ y)) = S := ⟨_, rfl⟩
  rw [hS] at hv
  have HS := Lib.hid (show putAll (naL zs ls) [] = S from by rw [← hS]; exact names_one hL.symm)
  obtain ⟨A, ca, rfl, a1, a2, hA⟩ := own_tB hv
  replace HB := Lib.hid (HB.out.trans (hb2.mono HB.out.size))
  replace HK := Lib.hid (HK.out.step hb2)
  have HA := Lib.hid hA
  clear hb2 hL hv hS hA
  go_wp2_with fail
  refine (HO.out _ HB.out).mono ?_
  rintro e w3 ⟨rfl, hb3⟩
  have hb4 := hb3.alloc hb3.size (.cells #[.string ⟨#[]⟩, .slice none 0 0] 33)
  replace HB := Lib.hid (HB.out.trans (hb4.mono HB.out.size))
  replace HK := Lib.hid (HK.out.step hb4)
  replace HA := Lib.hid (slat_step HA.out hb4)
  clear hb3 hb4
  have k0 := HK.out.cell 0
  have k1 := HK.out.cell 1
  have k2 := HK.out.cell 2
  have kl := HK.out.lt
  simp at k0 k1 k2
  go_wp2_with fail
  refine (HR.out _ HB.out).mono ?_
  rintro e w5 ⟨rfl, hb5⟩
  replace HB := Lib.hid (HB.out.trans (hb5.mono HB.out.size))
  replace HK := Lib.hid (HK.out.step hb5)
  replace HA := Lib.hid (slat_step HA.out hb5)
  clear hb5 k0 k1 k2 kl
  have k0 := HK.out.cell 0
  have k1 := HK.out.cell 1
  have k2 := HK.out.cell 2
  have kl := HK.out.lt
  simp at k0 k1 k2
  go_wp2_with fail
  refine (HRN.out _ HB.out).mono ?_
  rintro e w6 ⟨v6, rfl, hv6, hb6⟩
  rw [HS.out] at hv6
  obtain ⟨A6, c6, rfl, d1, d2, hD⟩ := own_tB (show World.ownsRow _ _ 9 1 v6 S.length (S.map encStr) from hv6)
  replace HB := Lib.hid (HB.out.trans (hb6.mono HB.out.size))
  replace HA := Lib.hid (slat_step HA.out hb6)
  have HD := Lib.hid hD
  clear hb6 hv6 hD k0 k1 k2 kl HK HS
  go_wp2_with fail
  refine (r_EqStr A A6 ca c6 S _ HA.out HD.out a1 d1 a2 d2).mono ?_
  rintro e w7 ⟨rfl, hb7⟩
  replace HB := Lib.hid (HB.out.trans (hb7.mono HB.out.size))
  clear hb7
  go_wp2_with fail
  go_ret
  exact ⟨ret_bool (by simp), HB.out⟩
theorem walk (D : BkD) (w : World) (HB : BkOk w w.heap.size D) (hL : laidMet Tryz.prog Rows.namesAllRow.laid w) :
    Calls Tryz.prog 3 #[.agg D.v] w fun e w' => e = .returned (.bool true) ∧ Below w.heap.size w w' := by
  have HT := tab_of_laid (laidMet.tail (laidMet.tail hL))
  have HI : EraIn w := fun y hy => itoa_tab w y (by omega) HT
  by_cases h : bookE D.rs D.zs D.ls = 0
  · exact walk_ok D.AR D.AZ D.AL D.cR D.cZ D.cL D.rs D.zs D.ls w HB HI h
  · exact walk_no D.AR D.AZ D.AL D.cR D.cZ D.cL D.rs D.zs D.ls w HB HI _ rfl h

theorem door_met (os : Os) (args : Array Value) : laidMetH Tryz.prog Rows.namesAllRow.laid ((World.laidAll Tryz.prog os Rows.namesAllRow.laid).forCall (fun _ _ => 0) ⟨#[], args, []⟩).memory := by
  rw [MakeChecks.laidMetH_plain _ _ _ (by kernel_rfl)]
  exact laidMet_laidAll args (by kernel_rfl) (by kernel_rfl)
set_option maxRecDepth 100000 in
theorem lifted (os : Os) (started : os.Started) (H : Type) (enc : TypeId × Value → H) :
    ReturnsInHanded {} Tryz.checked os 3 .any (fun w args => (Rows.namesAllSpec.pre enc Tryz.prog Tryz.f3 [] false w args ∧ laidMetH Tryz.prog Rows.namesAllRow.laid w) ∧ sizedMet enc Tryz.prog Tryz.f3 (OpenSpec.ofChange Rows.namesAllSpec) false w args)
      (Rows.namesAllSpec.post enc Tryz.prog Tryz.f3 false true false false) := by
  refine returnsInHanded_of_change_and (C := Tryz.checked) (X := fun w _ => laidMetH Tryz.prog Rows.namesAllRow.laid w) (fun _ _ _ hh h => h.of_heap hh) own started (by kernel_rfl) Tryz.func3
    (ChangeSpec.witness_shaped (enc := enc) (C := Tryz.checked) (os := os) (X := fun w _ => laidMetH Tryz.prog Rows.namesAllRow.laid w) false (World.laidAll Tryz.prog os Rows.namesAllRow.laid) #[.agg #[.slice none 0 0, .slice none 0 0, .slice none 0 0]] 8 (World.laidAll_os _ _ _) (World.shaped_of_ZipB (by kernel_rfl) (by kernel_rfl)) (by kernel_rfl) (by kernel_rfl) (by kernel_rfl) (door_met os _)) ?_
  intro W base args ds gs before hval0 hW _ _ hL _
  rw [MakeChecks.laidMetH_plain _ _ _ (by kernel_rfl)] at hL
  have hval : ∀ (j : Nat) t v, Tryz.f3.params[j]? = some t → args[j]? = some v → Value.okWide Tryz.prog W .any base t v := hval0
  have hW' := hW
  have hltW : ∀ x ∈ before, x.block < W.heap.size := fun x hx => by simpa using hW.lt x hx
  obtain ⟨p, q, hA0, hV, rfl, hfz, hnd⟩ := hW
  have hlt : ∀ x ∈ p, x.block < W.heap.size := fun x hx => hltW x (by simp [hx])
  clear hltW
  have hA : DataW.TrodAll enc Tryz.prog W 0 (fun _ => true) true Tryz.f3.params.toList args.toList ds p := hA0
  rw [Tryz.params3] at hA hval
  obtain ⟨v0, vs0, d0, ds0, p0, q0, hargs, rfl, rfl, h0, r0⟩ := trodAll_cons hA
  obtain ⟨rfl, rfl, rfl⟩ := trodAll_nil r0
  obtain rfl : args = #[v0] := by cases args; simp_all
  obtain ⟨rfl, rfl⟩ := trodVars_none hV
  obtain ⟨D0, rfl, HB0⟩ := val_book (hval 0 26 v0 rfl rfl) h0
  clear hA0 hval0
  refine (walk D0 W HB0 hL).mono fun e W' ⟨he, hg⟩ => ?_
  subst he
  exact ⟨_, rfl, law_post rfl hW' rfl rfl rfl rfl (by rw [Tryz.params3]; decide +kernel) hg⟩

/-- the statement -/
theorem proved : Rows.NamesAllSaid :=
  OpenClaim.holds_of_wide 3 Tryz.f3 rfl rfl rfl rfl rfl rfl rfl ⟨rfl, rfl, rfl, rfl, rfl⟩ rfl rfl rfl rfl rfl (by kernel_rfl) Tryz.func3 (by kernel_rfl)
    (of_decide_eq_true (by kernel_rfl)) (by unfold Func.isWrapper; first | (rw [if_pos (by decide +kernel)]; kernel_rfl) | (rw [if_neg (by decide +kernel)]; exact ⟨rfl, rfl⟩))
    (fun os started H enc _ => lifted os started H enc)
/-- the tied card -/
theorem card : Rows.NamesAllCardSaid :=
  Claim7.holds_tied_plain_at .later [] [.data, .data, .data] true (true, "71cbd27f3a888cbc4f90d9e7bdc6d319ae5c2bb2efea5ecc156a859ff46d125e") false
    proved (fun _ h => by cases h) (by kernel_rfl) (fun _ h => by cases h) namesAll_row_tie rfl ⟨rfl, rfl⟩ (by kernel_rfl) rfl
    (fun f fn hf hfn => by
      obtain rfl : f = 3 := Option.some.inj ((show Tryz.prog.funcNamed "timeball/timeballlaw.NamesAll" = some 3 by kernel_rfl).symm.trans hf) |>.symm
      obtain rfl : fn = Tryz.f3 := (Option.some.inj (Tryz.func3.symm.trans hfn)).symm
      exact ⟨by kernel_rfl, fun j t ht => by
        have hm := Array.mem_of_getElem? ht
        have hall : (Tryz.f3.params.toList.all fun u => !Tryz.prog.wantsStandIn u) = true := by kernel_rfl
        exact (show Tryz.prog.wantsStandIn t = false by simpa using List.all_eq_true.1 hall t (by simpa using hm))⟩)
    (by kernel_rfl)
end Go.Proofs.YthkiohemolndeaaGreatDoor.namesAll
