/- The law StateTells holds at every input: At returns what the reference returns. No condition. -/
import Derived.Test.YtanaoohgpdcfjaaGreatDoorOpn
import Derived.Test.YtanaoohgpdcfjaaGreatDoorDoorK
import Derived.Test.YtanaoohgpdcfjaaGreatDoorOpenBk
import Derived.Test.YtanaoohgpdcfjaaGreatDoorBcJ
import Derived.Test.YtanaoohgpdcfjaaGreatDoorSa
import Derived.Test.YtanaoohgpdcfjaaGreatDoorSaR
import Derived.Test.YtanaoohgpdcfjaaGreatDoorCards
import Derived.Test.YtanaoohgpdcfjaaGreatDoorTie
import Derived.LaidMore
import Derived.OpenShut
import Derived.Stop.Joined
import Derived.SevenTiedAt
import Derived.Lay
import Derived.MakeChecks
namespace Go.Proofs.YtanaoohgpdcfjaaGreatDoor.stateTells
open Go.ChangeShapes Go.WideShapes Go.ChangeAt Go.RowKit
set_option linter.unusedVariables false
set_option linter.unusedSimpArgs false
attribute [local go_sem ↓] Go.wp_at_zero Go.wp_at_succ
theorem s_const (w : World) (HI : EraIn w) :
    Calls Tryz.prog 13 #[.agg #[.slice none 0 0, .slice none 0 0, .slice none 0 0], .string ⟨#[97]⟩, .int .i64 0] w fun e w' => e = .returned (.tuple #[.agg #[.int .i64 0, .bool false, .string ⟨#[]⟩], .int .i64 6]) ∧ Below w.heap.size w w' :=
  s_At_e none none none 0 0 0 [] [] [] ⟨#[97]⟩ (show (1 : Nat) ≤ maxLen by unfold maxLen; omega) 0 w ⟨SlAt.none_ _ _ _ _, SlAt.none_ _ _ _ _, SlAt.none_ _ _ _ _, by simp, by simp, by simp, by unfold maxLen; simp, by unfold maxLen; simp, by unfold maxLen; simp, by simp, by simp, by simp⟩ HI 6 (by decide) (Or.inr ⟨rfl, rfl⟩)
theorem at_both (AR AZ AL : Option Addr) (cR cZ cL : Nat) (rs : List RuT) (zs : List ZoT) (ls : List LkT) (nm : ByteArray) (hnm : nm.size ≤ maxLen) (t : Int) (ht1 : -9223372036854775808 ≤ t) (ht2 : t ≤ 9223372036854775807) (w : World) (H : BkOk w w.heap.size ⟨AR, AZ, AL, cR, cZ, cL, rs, zs, ls⟩) (HI : EraIn w) :
    ∃ (ty : Ty) (E : Int), (∀ V : World, Below w.heap.size w V → Calls Tryz.prog 13 #[.agg #[.slice AR rs.length cR, .slice AZ zs.length cZ, .slice AL ls.length cL], .string nm, .int .i64 t] V fun e w' => e = .returned (.tuple #[.agg #[.int .i64 ty.1, .bool ty.2.1, .string ty.2.2], .int .i64 E]) ∧ Below V.heap.size V w') ∧
      ∀ V : World, Below w.heap.size w V → Calls Tryz.prog 14 #[.agg #[.slice AR rs.length cR, .slice AZ zs.length cZ, .slice AL ls.length cL], .string nm, .int .i64 t] V fun e w' => e = .returned (.tuple #[.agg #[.int .i64 ty.1, .bool ty.2.1, .string ty.2.2], .int .i64 E]) ∧ Below V.heap.size V w' := by
  have err : ∀ n : Int, n ≠ 0 → (bookE rs zs ls = n ∨ bookE rs zs ls = 0 ∧ rsV (res zs ls (ls.length + 1) nm) = .tuple #[zo0, .int .i64 n]) → ∃ (ty : Ty) (E : Int), (∀ V : World, Below w.heap.size w V → Calls Tryz.prog 13 #[.agg #[.slice AR rs.length cR, .slice AZ zs.length cZ, .slice AL ls.length cL], .string nm, .int .i64 t] V fun e w' => e = .returned (.tuple #[.agg #[.int .i64 ty.1, .bool ty.2.1, .string ty.2.2], .int .i64 E]) ∧ Below V.heap.size V w') ∧
      ∀ V : World, Below w.heap.size w V → Calls Tryz.prog 14 #[.agg #[.slice AR rs.length cR, .slice AZ zs.length cZ, .slice AL ls.length cL], .string nm, .int .i64 t] V fun e w' => e = .returned (.tuple #[.agg #[.int .i64 ty.1, .bool ty.2.1, .string ty.2.2], .int .i64 E]) ∧ Below V.heap.size V w' := fun n h0 hc =>
    ⟨(0, false, ⟨#[]⟩), n, fun V hb => s_At_e AR AZ AL cR cZ cL rs zs ls nm hnm t V (H.step hb) (HI.on hb) n h0 hc, fun V hb => r_StateAt_e AR AZ AL cR cZ cL rs zs ls nm hnm t V (H.step hb) n h0 hc⟩
  by_cases h : bookE rs zs ls = 0
  · cases hr : res zs ls (ls.length + 1) nm with
    | zone z =>
      obtain ⟨e1, _, e3, _⟩ := esOk_of h (res_mem hr)
      have hk : eraI z.eras t < z.eras.length := by have := (eraI_spec e3 t).1; omega
      exact ⟨_, _, fun V hb => s_At_z AR AZ AL cR cZ cL rs zs ls nm hnm t V (H.step hb) (HI.on hb) ht1 ht2 z h hr z.eras[eraI z.eras t] ⟨hk, rfl⟩ _ rfl _ rfl, fun V hb => r_StateAt_z AR AZ AL cR cZ cL rs zs ls nm hnm t V (H.step hb) z h hr z.eras[eraI z.eras t] ⟨hk, rfl⟩ _ rfl _ rfl⟩
    | none => exact err 6 (by decide) (Or.inr ⟨h, by rw [hr]; rfl⟩)
    | loop => exact err 8 (by decide) (Or.inr ⟨h, by rw [hr]; rfl⟩)
  · exact err _ h (Or.inl rfl)
set_option maxRecDepth 100000 in
set_option maxHeartbeats 4000000 in
theorem walk_all (AR AZ AL : Option Addr) (cR cZ cL : Nat) (rs : List RuT) (zs : List ZoT) (ls : List LkT) (nm : ByteArray) (hnm : nm.size ≤ maxLen) (t : Int) (ht1 : -9223372036854775808 ≤ t) (ht2 : t ≤ 9223372036854775807) (w : World) (H : BkOk w w.heap.size ⟨AR, AZ, AL, cR, cZ, cL, rs, zs, ls⟩) (HI : EraIn w) :
    Calls Tryz.prog 4 #[.agg #[.slice AR rs.length cR, .slice AZ zs.length cZ, .slice AL ls.length cL], .string nm, .int .i64 t] w fun e w' => e = .returned (.bool true) ∧ Below w.heap.size w w' := by
  obtain ⟨⟨v1, v2, v3⟩, E, hA, hR⟩ := at_both AR AZ AL cR cZ cL rs zs ls nm hnm t ht1 ht2 w H HI
  have HA := Lib.hid hA
  have HR := Lib.hid hR
  have HO := Lib.hid (fun (V : World) (hb : Below w.heap.size w V) => s_const V (HI.on hb))
  have hb0 := (Below.refl w.heap.size w).alloc (Nat.le_refl _) (.cells #[.slice AR rs.length cR, .slice AZ zs.length cZ, .slice AL ls.length cL] 26)
  have HK := Lib.hid (Blk.new w #[.slice AR rs.length cR, .slice AZ zs.length cZ, .slice AL ls.length cL] 26)
  have HB := Lib.hid hb0
  clear hA hR H HI hb0
  have kb := HK.out.cell
  go_enter Tryz.func4, Tryz.ntmps4
  go_wp2_with fail
  refine (HA.out _ HB.out).mono ?_
  rintro e w1 ⟨rfl, hb1⟩
  have hb2 := hb1.alloc hb1.size (.cells #[.int .i64 v1, .bool v2, .string v3] 37)
  replace HB := Lib.hid (HB.out.trans (hb2.mono HB.out.size))
  replace HK := Lib.hid (HK.out.step hb2)
  have HX := Lib.hid (Blk.new w1 #[.int .i64 v1, .bool v2, .string v3] 37)
  clear hb1 hb2 kb
  go_upto_region 2 with fail
  obtain ⟨W1, hW1⟩ : ∃ W, w1.alloc (.cells #[.int .i64 v1, .bool v2, .string v3] 37) = W := ⟨_, rfl⟩
  obtain ⟨g1, hg1⟩ : ∃ g, w1.heap.size = g := ⟨_, rfl⟩
  rw [hW1] at HB HK HX ⊢
  rw [hg1] at HX ⊢
  clear hW1 hg1
  have kb := HK.out.cell
  have kl := HK.out.lt
  go_wp2_with fail
  refine (HR.out _ HB.out).mono ?_
  rintro e w2 ⟨rfl, hb1⟩
  have hb2 := hb1.alloc hb1.size (.cells #[.int .i64 v1, .bool v2, .string v3] 37)
  replace HB := Lib.hid (HB.out.trans (hb2.mono HB.out.size))
  replace HX := Lib.hid (HX.out.step hb2)
  have HY := Lib.hid (Blk.new w2 #[.int .i64 v1, .bool v2, .string v3] 37)
  clear hb1 hb2 kb kl HK HA HR
  go_upto_region 3 with fail
  obtain ⟨W2, hW2⟩ : ∃ W, w2.alloc (.cells #[.int .i64 v1, .bool v2, .string v3] 37) = W := ⟨_, rfl⟩
  obtain ⟨g2, hg2⟩ : ∃ g, w2.heap.size = g := ⟨_, rfl⟩
  rw [hW2] at HB HX HY ⊢
  rw [hg2] at HY ⊢
  clear hW2 hg2
  go_wp2_with fail
  refine (HO.out _ HB.out).mono ?_
  rintro e w3 ⟨rfl, hb1⟩
  have hb2 := hb1.alloc hb1.size (.cells #[.int .i64 0, .bool false, .string ⟨#[]⟩] 37)
  replace HB := Lib.hid (HB.out.trans (hb2.mono HB.out.size))
  replace HX := Lib.hid (HX.out.step hb2)
  replace HY := Lib.hid (HY.out.step hb2)
  clear hb1 hb2
  go_upto_region 4 with fail
  obtain ⟨W3, hW3⟩ : ∃ W, w3.alloc (.cells #[.int .i64 0, .bool false, .string ⟨#[]⟩] 37) = W := ⟨_, rfl⟩
  rw [hW3] at HB HX HY ⊢
  clear hW3
  have xc := HX.out.cell
  have yc := HY.out.cell
  have xl := HX.out.lt
  have yl := HY.out.lt
  go_wp2_with fail
  first
  | (go_ret; exact ⟨ret_bool (by simp), HB.out⟩)
  | (go_quiet (fail); go_wp2_with fail; go_ret; exact ⟨ret_bool (by simp), below_drewN HB.out _⟩)
theorem walk (D : BkD) (nm : ByteArray) (hnm : nm.size ≤ maxLen) (t : Int) (hw : (Lit.int .i64 t).wf = true) (w : World) (HB : BkOk w w.heap.size D) (hL : laidMet Tryz.prog Rows.stateTellsRow.laid w) :
    Calls Tryz.prog 4 #[.agg D.v, .string nm, .int .i64 t] w fun e w' => e = .returned (.bool true) ∧ Below w.heap.size w w' := by
  have HT := tab_of_laid (laidMet.tail (laidMet.tail hL))
  have HI : EraIn w := fun y hy => itoa_tab w y (by omega) HT
  have hb : -9223372036854775808 ≤ t ∧ t ≤ 9223372036854775807 := by
    simp [Lit.wf, IntKind.min, IntKind.max, IntKind.signed, IntKind.bits] at hw; omega
  exact walk_all D.AR D.AZ D.AL D.cR D.cZ D.cL D.rs D.zs D.ls nm hnm t hb.1 hb.2 w HB HI

theorem door_met (os : Os) (args : Array Value) : laidMetH Tryz.prog Rows.stateTellsRow.laid ((World.laidAll Tryz.prog os Rows.stateTellsRow.laid).forCall (fun _ _ => 0) ⟨#[], args, []⟩).memory := by
  rw [MakeChecks.laidMetH_plain _ _ _ (by kernel_rfl)]
  exact laidMet_laidAll args (by kernel_rfl) (by kernel_rfl)
set_option maxRecDepth 100000 in
theorem lifted (os : Os) (started : os.Started) (H : Type) (enc : TypeId × Value → H) :
    ReturnsInHanded {} Tryz.checked os 4 .any (fun w args => (Rows.stateTellsSpec.pre enc Tryz.prog Tryz.f4 [] false w args ∧ laidMetH Tryz.prog Rows.stateTellsRow.laid w) ∧ sizedMet enc Tryz.prog Tryz.f4 (OpenSpec.ofChange Rows.stateTellsSpec) false w args)
      (Rows.stateTellsSpec.post enc Tryz.prog Tryz.f4 false true false false) := by
  refine returnsInHanded_of_change_and (C := Tryz.checked) (X := fun w _ => laidMetH Tryz.prog Rows.stateTellsRow.laid w) (fun _ _ _ hh h => h.of_heap hh) own started (by kernel_rfl) Tryz.func4
    (ChangeSpec.witness_shaped (enc := enc) (C := Tryz.checked) (os := os) (X := fun w _ => laidMetH Tryz.prog Rows.stateTellsRow.laid w) false (World.laidAll Tryz.prog os Rows.stateTellsRow.laid) #[.agg #[.slice none 0 0, .slice none 0 0, .slice none 0 0], .string ⟨#[]⟩, .int .i64 0] 8 (World.laidAll_os _ _ _) (World.shaped_of_ZipB (by kernel_rfl) (by kernel_rfl)) (by kernel_rfl) (by kernel_rfl) (by kernel_rfl) (door_met os _)) ?_
  intro W base args ds gs before hval0 hW _ _ hL _
  rw [MakeChecks.laidMetH_plain _ _ _ (by kernel_rfl)] at hL
  have hval : ∀ (j : Nat) t v, Tryz.f4.params[j]? = some t → args[j]? = some v → Value.okWide Tryz.prog W .any base t v := hval0
  have hW' := hW
  have hltW : ∀ x ∈ before, x.block < W.heap.size := fun x hx => by simpa using hW.lt x hx
  obtain ⟨p, q, hA0, hV, rfl, hfz, hnd⟩ := hW
  have hlt : ∀ x ∈ p, x.block < W.heap.size := fun x hx => hltW x (by simp [hx])
  clear hltW
  have hA : DataW.TrodAll enc Tryz.prog W 0 (fun _ => true) true Tryz.f4.params.toList args.toList ds p := hA0
  rw [Tryz.params4] at hA hval
  obtain ⟨v0, vs0, d0, ds0, p0, q0, hargs, rfl, rfl, h0, r0⟩ := trodAll_cons hA
  obtain ⟨v1, vs1, d1, ds1, p1, q1, rfl, rfl, rfl, h1, r1⟩ := trodAll_cons r0
  obtain ⟨v2, vs2, d2, ds2, p2, q2, rfl, rfl, rfl, h2, r2⟩ := trodAll_cons r1
  obtain ⟨rfl, rfl, rfl⟩ := trodAll_nil r2
  obtain rfl : args = #[v0, v1, v2] := by cases args; simp_all
  obtain ⟨rfl, rfl⟩ := trodVars_none hV
  obtain ⟨D0, rfl, HB0⟩ := val_book (hval 0 26 v0 rfl rfl) h0
  obtain ⟨a1, rfl, rfl, rfl, w1⟩ := Go.ChangeMaps.open_string Tryz.underlying9 (hval 1 9 v1 rfl rfl) h1
  obtain ⟨a2, rfl, rfl, rfl, w2⟩ := open_int Tryz.underlying3 (hval 2 3 v2 rfl rfl) h2
  clear hA0 hval0
  refine (walk D0 a1 w1 a2 w2 W HB0 hL).mono fun e W' ⟨he, hg⟩ => ?_
  subst he
  exact ⟨_, rfl, law_post rfl hW' rfl rfl rfl rfl (by rw [Tryz.params4]; decide +kernel) hg⟩

/-- the statement -/
theorem proved : Rows.StateTellsSaid :=
  OpenClaim.holds_of_wide 4 Tryz.f4 rfl rfl rfl rfl rfl rfl rfl ⟨rfl, rfl, rfl, rfl, rfl⟩ rfl rfl rfl rfl rfl (by kernel_rfl) Tryz.func4 (by kernel_rfl)
    (of_decide_eq_true (by kernel_rfl)) (by unfold Func.isWrapper; first | (rw [if_pos (by decide +kernel)]; kernel_rfl) | (rw [if_neg (by decide +kernel)]; exact ⟨rfl, rfl⟩))
    (fun os started H enc _ => lifted os started H enc)
/-- the tied card -/
theorem card : Rows.StateTellsCardSaid :=
  Claim7.holds_tied_plain_at .later [] [.data, .data, .data] true (true, "ee7847e288fee7e66eef2716021ccc79dd465b389d4d501099d400172deb19b5") true
    proved (fun _ h => by cases h) (by kernel_rfl) (fun _ h => by cases h) stateTells_row_tie rfl ⟨rfl, rfl⟩ (by kernel_rfl) rfl
    (fun f fn hf hfn => by
      obtain rfl : f = 4 := Option.some.inj ((show Tryz.prog.funcNamed "timeball/timeballlaw.StateTells" = some 4 by kernel_rfl).symm.trans hf) |>.symm
      obtain rfl : fn = Tryz.f4 := (Option.some.inj (Tryz.func4.symm.trans hfn)).symm
      exact ⟨by kernel_rfl, fun j t ht => by
        have hm := Array.mem_of_getElem? ht
        have hall : (Tryz.f4.params.toList.all fun u => !Tryz.prog.wantsStandIn u) = true := by kernel_rfl
        exact (show Tryz.prog.wantsStandIn t = false by simpa using List.all_eq_true.1 hall t (by simpa using hm))⟩)
    (by kernel_rfl)
end Go.Proofs.YtanaoohgpdcfjaaGreatDoor.stateTells
