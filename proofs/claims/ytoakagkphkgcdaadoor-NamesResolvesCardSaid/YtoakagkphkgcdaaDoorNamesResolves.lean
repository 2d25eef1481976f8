/- The law NamesResolves holds at every input: Resolve returns what the reference returns. No condition. -/
import Derived.Test.YtoakagkphkgcdaaDoorOpn
import Derived.Test.YtoakagkphkgcdaaDoorDoorK
import Derived.Test.YtoakagkphkgcdaaDoorOpenBk
import Derived.Test.YtoakagkphkgcdaaDoorNr
import Derived.Test.YtoakagkphkgcdaaDoorCards
import Derived.Test.YtoakagkphkgcdaaDoorTie
import Derived.LaidMore
import Derived.OpenShut
import Derived.Stop.Joined
import Derived.SevenTiedAt
import Derived.Lay
import Derived.MakeChecks
namespace Go.Proofs.YtoakagkphkgcdaaDoor.namesResolves
open Go.ChangeShapes Go.WideShapes Go.ChangeAt Go.RowKit
set_option linter.unusedVariables false
set_option linter.unusedSimpArgs false
attribute [local go_sem ↓] Go.wp_at_zero Go.wp_at_succ
theorem n_const (w : World) (HI : EraIn w) :
    Calls Tryd.prog 11 #[.agg #[.slice none 0 0, .slice none 0 0, .slice none 0 0], .string ⟨#[97]⟩] w fun e w' => e = .returned (.tuple #[.agg #[.string ⟨#[]⟩, .slice none 0 0], .int .i64 6]) ∧ Below w.heap.size w w' :=
  n_Resolve_e none none none 0 0 0 [] [] [] ⟨#[97]⟩ (show (1 : Nat) ≤ maxLen by unfold maxLen; omega) w
    ⟨SlAt.none_ _ _ _ _, SlAt.none_ _ _ _ _, SlAt.none_ _ _ _ _, by simp, by simp, by simp, by unfold maxLen; simp, by unfold maxLen; simp, by unfold maxLen; simp, by simp, by simp, by simp⟩ HI rfl 6 rfl
set_option maxRecDepth 100000 in
set_option maxHeartbeats 4000000 in
theorem walk_z (AR AZ AL : Option Addr) (cR cZ cL : Nat) (rs : List RuT) (zs : List ZoT) (ls : List LkT) (nm : ByteArray) (hnm : nm.size ≤ maxLen) (w : World) (H : BkOk w w.heap.size ⟨AR, AZ, AL, cR, cZ, cL, rs, zs, ls⟩) (HI : EraIn w) (z : ZoT) (hres : res zs ls (ls.length + 1) nm = .zone z) (h : bookE rs zs ls = 0) :
    Calls Tryd.prog 5 #[.agg #[.slice AR rs.length cR, .slice AZ zs.length cZ, .slice AL ls.length cL], .string nm] w fun e w' => e = .returned (.bool true) ∧ Below w.heap.size w w' := by
  have HK := Lib.hid (fun (V : World) (hb : Below w.heap.size w V) => n_Resolve_z AR AZ AL cR cZ cL rs zs ls nm hnm V (H.step hb) (HI.on hb) h z hres)
  have HR := Lib.hid (fun (V : World) (hb : Below w.heap.size w V) => (show Calls Tryd.prog 12 #[.agg #[.slice AR rs.length cR, .slice AZ zs.length cZ, .slice AL ls.length cL], .string nm] V fun e w' => e = .returned (.tuple #[.agg #[.string z.name, .slice z.A z.eras.length z.cap], .int .i64 0]) ∧ Below V.heap.size V w' from by have := r_Resolve' AR AZ AL cR cZ cL rs zs ls nm hnm V (H.step hb) h; rw [hres] at this; exact this))
  have hzm := (H.zs z (res_mem hres)).2
  have hz1 := hzm.2.1
  have hz2 := hzm.2.2.1
  have HZ := Lib.hid hzm.1
  clear hzm
  have HO := Lib.hid (fun (V : World) (hb : Below w.heap.size w V) => n_const V (HI.on hb))
  have hb0 := (Below.refl w.heap.size w).alloc (Nat.le_refl _) (.cells #[.slice AR rs.length cR, .slice AZ zs.length cZ, .slice AL ls.length cL] 26)
  have k0 := Blk.new w #[.slice AR rs.length cR, .slice AZ zs.length cZ, .slice AL ls.length cL] 26
  obtain ⟨W1, hW1⟩ : ∃ W1, w.alloc (.cells #[.slice AR rs.length cR, .slice AZ zs.length cZ, .slice AL ls.length cL] 26) = W1 := ⟨_, rfl⟩
  rw [hW1] at hb0 k0
  have HK0 := Lib.hid k0
  have HB0 := Lib.hid hb0
  have kb := HK0.out.cell
  clear H HI hb0 k0 h hres
  go_enter Tryd.func5, Tryd.ntmps5
  go_wp2_with fail
  refine (HK.out W1 HB0.out).mono ?_
  rintro e w2 ⟨A2, c', rfl, q1, q2, HS2, hb2⟩
  have hb3 := hb2.alloc hb2.size (.cells #[.string z.name, .slice A2 z.eras.length c'] 31)
  have HB3 := Lib.hid (HB0.out.trans (hb3.mono HB0.out.size))
  have HK3 := Lib.hid (HK0.out.step hb3)
  have HT3 := Lib.hid (Blk.new w2 #[.string z.name, .slice A2 z.eras.length c'] 31)
  have HS3 := Lib.hid ((HS2.below ((Below.refl _ _).alloc (Nat.le_refl _) (.cells #[.string z.name, .slice A2 z.eras.length c'] 31))).more (show w2.heap.size ≤ (w2.alloc (.cells #[.string z.name, .slice A2 z.eras.length c'] 31)).heap.size by simp))
  go_upto_region 2 with fail
  obtain ⟨W3, hW3⟩ : ∃ W, w2.alloc (.cells #[.string z.name, .slice A2 z.eras.length c'] 31) = W := ⟨_, rfl⟩
  obtain ⟨g3, hg3⟩ : ∃ g, w2.heap.size = g := ⟨_, rfl⟩
  rw [hW3] at HB3 HK3 HT3 HS3 ⊢
  rw [hg3] at HT3 ⊢
  clear hW3 hg3 hb2 hb3 kb HS2
  have kb := HK3.out.cell
  go_wp2_with fail
  refine (HR.out W3 HB3.out).mono ?_
  rintro e w4 ⟨rfl, hb4⟩
  have hb5 := hb4.alloc hb4.size (.cells #[.string z.name, .slice z.A z.eras.length z.cap] 31)
  have HB5 := Lib.hid (HB3.out.trans (hb5.mono HB3.out.size))
  have HK5 := Lib.hid (HK3.out.step hb5)
  have HT5 := Lib.hid (Blk.new w4 #[.string z.name, .slice z.A z.eras.length z.cap] 31)
  have HU5 := Lib.hid (HT3.out.step hb5)
  have HS5 := Lib.hid ((HS3.out.below hb5).more hb5.size)
  go_upto_region 3 with fail
  obtain ⟨W5, hW5⟩ : ∃ W, w4.alloc (.cells #[.string z.name, .slice z.A z.eras.length z.cap] 31) = W := ⟨_, rfl⟩
  obtain ⟨g5, hg5⟩ : ∃ g, w4.heap.size = g := ⟨_, rfl⟩
  rw [hW5] at HB5 HK5 HT5 HU5 HS5 ⊢
  rw [hg5] at HT5 ⊢
  clear hW5 hg5 hb4 hb5 kb
  go_wp2_with fail
  refine (HO.out W5 HB5.out).mono ?_
  rintro e w6 ⟨rfl, hb6⟩
  have hb7 := hb6.alloc hb6.size (.cells #[.string ⟨#[]⟩, .slice none 0 0] 31)
  have HB7 := Lib.hid (HB5.out.trans (hb7.mono HB5.out.size))
  have HT7 := Lib.hid (HT5.out.step hb7)
  have HU7 := Lib.hid (HU5.out.step hb7)
  have HS7 := Lib.hid ((HS5.out.below hb7).more hb7.size)
  go_upto_region 4 with fail
  obtain ⟨W7, hW7⟩ : ∃ W, w6.alloc (.cells #[.string ⟨#[]⟩, .slice none 0 0] 31) = W := ⟨_, rfl⟩
  rw [hW7] at HB7 HT7 HU7 HS7 ⊢
  clear hW7 hb6 hb7
  have t5 := HU7.out.cell
  have t7 := HT7.out.cell
  have HE := Lib.hid (r_ZoneEqN z.name A2 z.A c' z.cap z.eras W7 HS7.out ((HZ.out.below HB7.out).more HB7.out.size) q1 hz1 q2 hz2)
  go_wp2_with (go_at_call 13; refine (HE.out).mono ?_; rintro e w8 ⟨rfl, hb8⟩)
  go_ret
  exact ⟨rfl, HB7.out.trans (hb8.mono HB7.out.size)⟩
set_option maxRecDepth 100000 in
set_option maxHeartbeats 4000000 in
theorem walk_e (AR AZ AL : Option Addr) (cR cZ cL : Nat) (rs : List RuT) (zs : List ZoT) (ls : List LkT) (nm : ByteArray) (hnm : nm.size ≤ maxLen) (w : World) (H : BkOk w w.heap.size ⟨AR, AZ, AL, cR, cZ, cL, rs, zs, ls⟩) (HI : EraIn w) (n : Int) (hcase : bookE rs zs ls = n ∧ n ≠ 0 ∨ bookE rs zs ls = 0 ∧ rsV (res zs ls (ls.length + 1) nm) = .tuple #[zo0, .int .i64 n]) :
    Calls Tryd.prog 5 #[.agg #[.slice AR rs.length cR, .slice AZ zs.length cZ, .slice AL ls.length cL], .string nm] w fun e w' => e = .returned (.bool true) ∧ Below w.heap.size w w' := by
  have HK := Lib.hid (fun (V : World) (hb : Below w.heap.size w V) => (show Calls Tryd.prog 11 #[.agg #[.slice AR rs.length cR, .slice AZ zs.length cZ, .slice AL ls.length cL], .string nm] V fun e w' => e = .returned (.tuple #[.agg #[.string ⟨#[]⟩, .slice none 0 0], .int .i64 n]) ∧ Below V.heap.size V w' from by
    rcases hcase with ⟨h1, h2⟩ | ⟨h1, h2⟩
    · exact n_Resolve_no AR AZ AL cR cZ cL rs zs ls nm hnm V (H.step hb) (HI.on hb) n h1 h2
    · exact n_Resolve_e AR AZ AL cR cZ cL rs zs ls nm hnm V (H.step hb) (HI.on hb) h1 n h2))
  have HR := Lib.hid (fun (V : World) (hb : Below w.heap.size w V) => (show Calls Tryd.prog 12 #[.agg #[.slice AR rs.length cR, .slice AZ zs.length cZ, .slice AL ls.length cL], .string nm] V fun e w' => e = .returned (.tuple #[.agg #[.string ⟨#[]⟩, .slice none 0 0], .int .i64 n]) ∧ Below V.heap.size V w' from by
    rcases hcase with ⟨h1, h2⟩ | ⟨h1, h2⟩
    · exact r_Resolve_no AR AZ AL cR cZ cL rs zs ls nm hnm V (H.step hb) n h1 h2
    · have := r_Resolve' AR AZ AL cR cZ cL rs zs ls nm hnm V (H.step hb) h1; rw [h2] at this; exact this))
  have HO := Lib.hid (fun (V : World) (hb : Below w.heap.size w V) => n_const V (HI.on hb))
  have hb0 := (Below.refl w.heap.size w).alloc (Nat.le_refl _) (.cells #[.slice AR rs.length cR, .slice AZ zs.length cZ, .slice AL ls.length cL] 26)
  have k0 := Blk.new w #[.slice AR rs.length cR, .slice AZ zs.length cZ, .slice AL ls.length cL] 26
  obtain ⟨W1, hW1⟩ : ∃ W1, w.alloc (.cells #[.slice AR rs.length cR, .slice AZ zs.length cZ, .slice AL ls.length cL] 26) = W1 := ⟨_, rfl⟩
  rw [hW1] at hb0 k0
  have HK0 := Lib.hid k0
  have HB0 := Lib.hid hb0
  have kb := HK0.out.cell
  clear H HI hb0 k0 hcase
  go_enter Tryd.func5, Tryd.ntmps5
  go_wp2_with fail
  refine (HK.out W1 HB0.out).mono ?_
  rintro e w2 ⟨rfl, hb2⟩
  have hb3 := hb2.alloc hb2.size (.cells #[.string ⟨#[]⟩, .slice none 0 0] 31)
  have HB3 := Lib.hid (HB0.out.trans (hb3.mono HB0.out.size))
  have HK3 := Lib.hid (HK0.out.step hb3)
  have HT3 := Lib.hid (Blk.new w2 #[.string ⟨#[]⟩, .slice none 0 0] 31)
  go_upto_region 2 with fail
  obtain ⟨W3, hW3⟩ : ∃ W, w2.alloc (.cells #[.string ⟨#[]⟩, .slice none 0 0] 31) = W := ⟨_, rfl⟩
  obtain ⟨g3, hg3⟩ : ∃ g, w2.heap.size = g := ⟨_, rfl⟩
  rw [hW3] at HB3 HK3 HT3 ⊢
  rw [hg3] at HT3 ⊢
  clear hW3 hg3 hb2 hb3 kb
  have kb := HK3.out.cell
  go_wp2_with fail
  refine (HR.out W3 HB3.out).mono ?_
  rintro e w4 ⟨rfl, hb4⟩
  have hb5 := hb4.alloc hb4.size (.cells #[.string ⟨#[]⟩, .slice none 0 0] 31)
  have HB5 := Lib.hid (HB3.out.trans (hb5.mono HB3.out.size))
  have HK5 := Lib.hid (HK3.out.step hb5)
  have HT5 := Lib.hid (Blk.new w4 #[.string ⟨#[]⟩, .slice none 0 0] 31)
  have HU5 := Lib.hid (HT3.out.step hb5)
  go_upto_region 3 with fail
  obtain ⟨W5, hW5⟩ : ∃ W, w4.alloc (.cells #[.string ⟨#[]⟩, .slice none 0 0] 31) = W := ⟨_, rfl⟩
  obtain ⟨g5, hg5⟩ : ∃ g, w4.heap.size = g := ⟨_, rfl⟩
  rw [hW5] at HB5 HK5 HT5 HU5 ⊢
  rw [hg5] at HT5 ⊢
  clear hW5 hg5 hb4 hb5 kb
  go_wp2_with fail
  refine (HO.out W5 HB5.out).mono ?_
  rintro e w6 ⟨rfl, hb6⟩
  have hb7 := hb6.alloc hb6.size (.cells #[.string ⟨#[]⟩, .slice none 0 0] 31)
  have HB7 := Lib.hid (HB5.out.trans (hb7.mono HB5.out.size))
  have HT7 := Lib.hid (HT5.out.step hb7)
  have HU7 := Lib.hid (HU5.out.step hb7)
  go_upto_region 4 with fail
  obtain ⟨W7, hW7⟩ : ∃ W, w6.alloc (.cells #[.string ⟨#[]⟩, .slice none 0 0] 31) = W := ⟨_, rfl⟩
  rw [hW7] at HB7 HT7 HU7 ⊢
  clear hW7 hb6 hb7
  have t5 := HU7.out.cell
  have t7 := HT7.out.cell
  have HE := Lib.hid (r_ZoneEqN ⟨#[]⟩ none none 0 0 [] W7 (SlAt.none_ _ _ _ _) (SlAt.none_ _ _ _ _) (Nat.le_refl _) (Nat.le_refl _) (by unfold maxLen; omega) (by unfold maxLen; omega))
  go_wp2_with (go_at_call 13; refine (HE.out).mono ?_; rintro e w8 ⟨rfl, hb8⟩)
  go_ret
  exact ⟨rfl, HB7.out.trans (hb8.mono HB7.out.size)⟩
theorem walk (D : BkD) (nm : ByteArray) (hnm : nm.size ≤ maxLen) (w : World) (HB : BkOk w w.heap.size D) (hL : laidMet Tryd.prog Rows.namesResolvesRow.laid w) :
    Calls Tryd.prog 5 #[.agg D.v, .string nm] w fun e w' => e = .returned (.bool true) ∧ Below w.heap.size w w' := by
  have HT := tab_of_laid (laidMet.tail (laidMet.tail hL))
  have HI : EraIn w := fun y hy => itoa_tab w y (by omega) HT
  by_cases h : bookE D.rs D.zs D.ls = 0
  · cases hr : res D.zs D.ls (D.ls.length + 1) nm with
    | zone z => exact walk_z D.AR D.AZ D.AL D.cR D.cZ D.cL D.rs D.zs D.ls nm hnm w HB HI z hr h
    | none => exact walk_e D.AR D.AZ D.AL D.cR D.cZ D.cL D.rs D.zs D.ls nm hnm w HB HI 6 (Or.inr ⟨h, by rw [hr]; rfl⟩)
    | loop => exact walk_e D.AR D.AZ D.AL D.cR D.cZ D.cL D.rs D.zs D.ls nm hnm w HB HI 8 (Or.inr ⟨h, by rw [hr]; rfl⟩)
  · exact walk_e D.AR D.AZ D.AL D.cR D.cZ D.cL D.rs D.zs D.ls nm hnm w HB HI _ (Or.inl ⟨rfl, h⟩)

theorem door_met (os : Os) (args : Array Value) : laidMetH Tryd.prog Rows.namesResolvesRow.laid ((World.laidAll Tryd.prog os Rows.namesResolvesRow.laid).forCall (fun _ _ => 0) ⟨#[], args, []⟩).memory := by
  rw [MakeChecks.laidMetH_plain _ _ _ (by kernel_rfl)]
  exact laidMet_laidAll args (by kernel_rfl) (by kernel_rfl)
set_option maxRecDepth 100000 in
theorem lifted (os : Os) (started : os.Started) (H : Type) (enc : TypeId × Value → H) :
    ReturnsInHanded {} Tryd.checked os 5 .any (fun w args => (Rows.namesResolvesSpec.pre enc Tryd.prog Tryd.f5 [] false w args ∧ laidMetH Tryd.prog Rows.namesResolvesRow.laid w) ∧ sizedMet enc Tryd.prog Tryd.f5 (OpenSpec.ofChange Rows.namesResolvesSpec) false w args)
      (Rows.namesResolvesSpec.post enc Tryd.prog Tryd.f5 false true false false) := by
  refine returnsInHanded_of_change_and (C := Tryd.checked) (X := fun w _ => laidMetH Tryd.prog Rows.namesResolvesRow.laid w) (fun _ _ _ hh h => h.of_heap hh) own started (by kernel_rfl) Tryd.func5
    (ChangeSpec.witness_shaped (enc := enc) (C := Tryd.checked) (os := os) (X := fun w _ => laidMetH Tryd.prog Rows.namesResolvesRow.laid w) false (World.laidAll Tryd.prog os Rows.namesResolvesRow.laid) #[.agg #[.slice none 0 0, .slice none 0 0, .slice none 0 0], .string ⟨#[]⟩] 8 (World.laidAll_os _ _ _) (World.shaped_of_ZipB (by kernel_rfl) (by kernel_rfl)) (by kernel_rfl) (by kernel_rfl) (by kernel_rfl) (door_met os _)) ?_
  intro W base args ds gs before hval0 hW _ _ hL _
  rw [MakeChecks.laidMetH_plain _ _ _ (by kernel_rfl)] at hL
  have hval : ∀ (j : Nat) t v, Tryd.f5.params[j]? = some t → args[j]? = some v → Value.okWide Tryd.prog W .any base t v := hval0
  have hW' := hW
  have hltW : ∀ x ∈ before, x.block < W.heap.size := fun x hx => by simpa using hW.lt x hx
  obtain ⟨p, q, hA0, hV, rfl, hfz, hnd⟩ := hW
  have hlt : ∀ x ∈ p, x.block < W.heap.size := fun x hx => hltW x (by simp [hx])
  clear hltW
  have hA : DataW.TrodAll enc Tryd.prog W 0 (fun _ => true) true Tryd.f5.params.toList args.toList ds p := hA0
  rw [Tryd.params5] at hA hval
  obtain ⟨v0, vs0, d0, ds0, p0, q0, hargs, rfl, rfl, h0, r0⟩ := trodAll_cons hA
  obtain ⟨v1, vs1, d1, ds1, p1, q1, rfl, rfl, rfl, h1, r1⟩ := trodAll_cons r0
  obtain ⟨rfl, rfl, rfl⟩ := trodAll_nil r1
  obtain rfl : args = #[v0, v1] := by cases args; simp_all
  obtain ⟨rfl, rfl⟩ := trodVars_none hV
  obtain ⟨D0, rfl, HB0⟩ := val_book (hval 0 26 v0 rfl rfl) h0
  obtain ⟨a1, rfl, rfl, rfl, w1⟩ := Go.ChangeMaps.open_string Tryd.underlying9 (hval 1 9 v1 rfl rfl) h1
  clear hA0 hval0
  refine (walk D0 a1 w1 W HB0 hL).mono fun e W' ⟨he, hg⟩ => ?_
  subst he
  exact ⟨_, rfl, law_post rfl hW' rfl rfl rfl rfl (by rw [Tryd.params5]; decide +kernel) hg⟩

/-- the statement -/
theorem proved : Rows.NamesResolvesSaid :=
  OpenClaim.holds_of_wide 5 Tryd.f5 rfl rfl rfl rfl rfl rfl rfl ⟨rfl, rfl, rfl, rfl, rfl⟩ rfl rfl rfl rfl rfl (by kernel_rfl) Tryd.func5 (by kernel_rfl)
    (of_decide_eq_true (by kernel_rfl)) (by unfold Func.isWrapper; first | (rw [if_pos (by decide +kernel)]; kernel_rfl) | (rw [if_neg (by decide +kernel)]; exact ⟨rfl, rfl⟩))
    (fun os started H enc _ => lifted os started H enc)
/-- the tied card -/
theorem card : Rows.NamesResolvesCardSaid :=
  Claim7.holds_tied_plain_at .later [] [.data, .data, .data] true (true, "a0dbecb91f1470c4ebc5db8fbb74cc3e398332df58a112a40a711063ba3ed9ee") false
    proved (fun _ h => by cases h) (by kernel_rfl) (fun _ h => by cases h) namesResolves_row_tie rfl ⟨rfl, rfl⟩ (by kernel_rfl) rfl
    (fun f fn hf hfn => by
      obtain rfl : f = 5 := Option.some.inj ((show Tryd.prog.funcNamed "timeball/timeballlaw.NamesResolves" = some 5 by kernel_rfl).symm.trans hf) |>.symm
      obtain rfl : fn = Tryd.f5 := (Option.some.inj (Tryd.func5.symm.trans hfn)).symm
      exact ⟨by kernel_rfl, fun j t ht => by
        have hm := Array.mem_of_getElem? ht
        have hall : (Tryd.f5.params.toList.all fun u => !Tryd.prog.wantsStandIn u) = true := by kernel_rfl
        exact (show Tryd.prog.wantsStandIn t = false by simpa using List.all_eq_true.1 hall t (by simpa using hm))⟩)
    (by kernel_rfl)
end Go.Proofs.YtoakagkphkgcdaaDoor.namesResolves
