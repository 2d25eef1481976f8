/- The law TurnsTells holds at every input: Of returns what the reference returns. No condition. -/
import Derived.Test.YtanaoohgpdcfjaaGreatDoorOpn
import Derived.Test.YtanaoohgpdcfjaaGreatDoorDoorK
import Derived.Test.YtanaoohgpdcfjaaGreatDoorOpenBk
import Derived.Test.YtanaoohgpdcfjaaGreatDoorBcJ
import Derived.Test.YtanaoohgpdcfjaaGreatDoorTuO
import Derived.Test.YtanaoohgpdcfjaaGreatDoorTuR
import Derived.Test.YtanaoohgpdcfjaaGreatDoorCards
import Derived.Test.YtanaoohgpdcfjaaGreatDoorTie
import Derived.LaidMore
import Derived.OpenShut
import Derived.Stop.Joined
import Derived.SevenTiedAt
import Derived.Lay
import Derived.MakeChecks
namespace Go.Proofs.YtanaoohgpdcfjaaGreatDoor.turnsTells
open Go.ChangeShapes Go.WideShapes Go.ChangeAt Go.RowKit
set_option linter.unusedVariables false
set_option linter.unusedSimpArgs false
attribute [local go_sem ↓] Go.wp_at_zero Go.wp_at_succ
theorem t_const (w : World) (HI : EraIn w) :
    Calls Tryz.prog 9 #[.agg #[.slice none 0 0, .slice none 0 0, .slice none 0 0], .string ⟨#[97]⟩, .int .i64 0] w fun e w' => ∃ v, e = .returned (.tuple #[v, .int .i64 6]) ∧ Below w.heap.size w w' := by
  refine (t_Of none none none 0 0 0 [] [] [] ⟨#[97]⟩ 0 w ⟨SlAt.none_ _ _ _ _, SlAt.none_ _ _ _ _, SlAt.none_ _ _ _ _, by simp, by simp, by simp, by unfold maxLen; simp, by unfold maxLen; simp, by unfold maxLen; simp, by simp, by simp, by simp⟩ HI).mono ?_
  rintro e w' ⟨v, rfl, _, hb⟩
  exact ⟨v, rfl, hb⟩
theorem own_tu {w : World} {base : Nat} {v : Value} {l : List TuT} (h : w.ownsRow base 34 3 v l.length (l.map tuCells).flatten) : ∃ A cap, v = .slice A l.length cap ∧ l.length ≤ cap ∧ cap ≤ maxLen ∧ SlAt w w.heap.size 3 A (l.map tuCells) := by
  obtain ⟨A, cap, e, h1, h2, h3⟩ := own_at (xss := l.map tuCells) (by simpa using h) (tu_len3 l)
  rw [List.length_map] at e h1
  exact ⟨A, cap, e, h1, h2, h3⟩
theorem slat_step {w w' : World} {n : Nat} {A : Option Addr} {xs : List (List Value)} (h : SlAt w w.heap.size n A xs) (hb : Below w.heap.size w w') : SlAt w' w'.heap.size n A xs := (h.below hb).more hb.size
set_option maxRecDepth 100000 in
set_option maxHeartbeats 4000000 in
theorem walk_all (AR AZ AL : Option Addr) (cR cZ cL : Nat) (rs : List RuT) (zs : List ZoT) (ls : List LkT) (nm : ByteArray) (off : Int) (w : World) (H : BkOk w w.heap.size ⟨AR, AZ, AL, cR, cZ, cL, rs, zs, ls⟩) (HI : EraIn w) :
    Calls Tryz.prog 3 #[.agg #[.slice AR rs.length cR, .slice AZ zs.length cZ, .slice AL ls.length cL], .string nm, .int .i64 off] w fun e w' => e = .returned (.bool true) ∧ Below w.heap.size w w' := by
  have HN := Lib.hid (fun (V : World) (hb : Below w.heap.size w V) => t_Of AR AZ AL cR cZ cL rs zs ls nm off V (H.step hb) (HI.on hb))
  have HR := Lib.hid (fun (V : World) (hb : Below w.heap.size w V) => r_BookCheck' AR AZ AL cR cZ cL rs zs ls V (H.step hb))
  have HT := Lib.hid (show bookE rs zs ls = 0 → offOk off → ∀ V : World, Below w.heap.size w V → Calls Tryz.prog 11 #[.agg #[.slice AR rs.length cR, .slice AZ zs.length cZ, .slice AL ls.length cL], .string nm, .int .i64 off] V (TuPost rs nm off V) from fun h ho V hb =>
    r_Turns AR AZ AL cR cZ cL zs.length ls.length rs nm off V (H.step hb).R (H.step hb).hR (H.step hb).mR (bookE_inv h).1.1 (rub_of_book h) (by have := ho.1; omega) (by have := ho.2; omega))
  have HO := Lib.hid (fun (V : World) (hb : Below w.heap.size w V) => t_const V (HI.on hb))
  have hb0 := (Below.refl w.heap.size w).alloc (Nat.le_refl _) (.cells #[.slice AR rs.length cR, .slice AZ zs.length cZ, .slice AL ls.length cL] 26)
  have HK := Lib.hid (Blk.new w #[.slice AR rs.length cR, .slice AZ zs.length cZ, .slice AL ls.length cL] 26)
  have HB := Lib.hid hb0
  obtain ⟨E, hE⟩ : ∃ E, bookE rs zs ls = E := ⟨_, rfl⟩
  rw [hE] at HR
  have HE := Lib.hid hE
  have hc1 := H.hR
  have hc2 := H.hZ
  have hc3 := H.hL
  clear H HI hb0 hE hc1 hc2 hc3
  have kb := HK.out.cell
  go_enter Tryz.func3, Tryz.ntmps3
  go_wp2_with fail
  refine (HN.out _ HB.out).mono ?_
  rintro e w2 ⟨v, rfl, hv, hb2⟩
  obtain ⟨A, ca, rfl, a1, a2, hA⟩ := own_tu hv
  replace HB := Lib.hid (HB.out.trans (hb2.mono HB.out.size))
  replace HK := Lib.hid (HK.out.step hb2)
  have HA := Lib.hid hA
  clear hb2 hv hA kb
  have kb := HK.out.cell
  have kl := HK.out.lt
  obtain ⟨G, hG⟩ : ∃ G, ofE rs zs ls nm off = G := ⟨_, rfl⟩
  obtain ⟨l, hl⟩ : ∃ l, ofL rs zs ls nm off = l := ⟨_, rfl⟩
  rw [hG, hl]
  rw [hl] at HA a1
  have HG := Lib.hid (And.intro hG hl)
  clear hG hl
  go_wp2_with fail
  refine (HR.out _ HB.out).mono ?_
  rintro e w3 ⟨rfl, hb3⟩
  replace HB := Lib.hid (HB.out.trans (hb3.mono HB.out.size))
  replace HK := Lib.hid (HK.out.step hb3)
  replace HA := Lib.hid (slat_step HA.out hb3)
  clear hb3 kb kl
  have kb := HK.out.cell
  have kl := HK.out.lt
  by_cases h0 : E = 0
  · subst h0
    by_cases ho : offOk off
    · have HM2 := Lib.hid (HT.out HE.out ho w3 HB.out)
      have hX := of_ok (nm := nm) HE.out ho
      rw [HG.out.1, HG.out.2] at hX
      have HX := Lib.hid hX
      obtain ⟨ho1, ho2⟩ := ho
      clear HT hX
      go_wp2_with fail
      refine HM2.out.mono ?_
      rintro e w4 ⟨v4, rfl, hv4, hb4⟩
      rw [← HX.out.2] at hv4
      obtain ⟨C, cc, rfl, c1, c2, hC⟩ := own_tu hv4
      rw [← HX.out.1]
      replace HB := Lib.hid (HB.out.trans (hb4.mono HB.out.size))
      replace HA := Lib.hid (slat_step HA.out hb4)
      have HC := Lib.hid hC
      clear hb4 hv4 hC kb kl HM2
      go_wp2_with fail
      refine (HO.out _ HB.out).mono ?_
      rintro e w5 ⟨v5, rfl, hb5⟩
      replace HB := Lib.hid (HB.out.trans (hb5.mono HB.out.size))
      replace HA := Lib.hid (slat_step HA.out hb5)
      replace HC := Lib.hid (slat_step HC.out hb5)
      clear hb5
      have HQ := Lib.hid (r_EqTu A C ca cc l w5 HA.out HC.out a1 c1 a2 c2)
      go_wp2_with (go_at_call 12; refine (HQ.out).mono ?_; rintro e w6 ⟨rfl, hb6⟩)
      go_ret
      exact ⟨ret_bool (by simp), HB.out.trans (hb6.mono HB.out.size)⟩
    · have hX := of_arg (nm := nm) HE.out ho
      rw [HG.out.1, HG.out.2] at hX
      obtain ⟨rfl, rfl⟩ := hX
      rcases (show off < -64800 ∨ (-64800 ≤ off ∧ 64800 < off) by unfold offOk at ho; omega) with h1 | ⟨h1, h2⟩
      all_goals
        clear ho HT
        go_wp2_with fail
        refine (HO.out _ HB.out).mono ?_
        rintro e w5 ⟨v5, rfl, hb5⟩
        replace HB := Lib.hid (HB.out.trans (hb5.mono HB.out.size))
        replace HA := Lib.hid (slat_step HA.out hb5)
        clear hb5 kb kl
        have HQ := Lib.hid (r_EqTu A none ca 0 [] w5 HA.out (SlAt.none_ _ _ _ _) a1 (Nat.le_refl _) a2 (by unfold maxLen; omega))
        go_wp2_with (go_at_call 12; refine (HQ.out).mono ?_; rintro e w6 ⟨rfl, hb6⟩)
        go_ret
        exact ⟨ret_bool (by simp), HB.out.trans (hb6.mono HB.out.size)⟩
  · have hX := of_bad (rs := rs) (zs := zs) (ls := ls) (nm := nm) (off := off) (by rw [HE.out]; exact h0)
    rw [HG.out.1, HG.out.2, HE.out] at hX
    obtain ⟨rfl, rfl⟩ := hX
    have h2 : (G != 0) = true := by rw [bne_iff_ne]; exact h0
    have h3 : (G == 0) = false := by rw [beq_eq_false_iff_ne]; exact h0
    clear HT h0
    go_wp2_with fail
    refine (HO.out _ HB.out).mono ?_
    rintro e w5 ⟨v5, rfl, hb5⟩
    replace HB := Lib.hid (HB.out.trans (hb5.mono HB.out.size))
    replace HA := Lib.hid (slat_step HA.out hb5)
    clear hb5 kb kl
    have HQ := Lib.hid (r_EqTu A none ca 0 [] w5 HA.out (SlAt.none_ _ _ _ _) a1 (Nat.le_refl _) a2 (by unfold maxLen; omega))
    go_wp2_with (go_at_call 12; refine (HQ.out).mono ?_; rintro e w6 ⟨rfl, hb6⟩)
    go_ret
    exact ⟨ret_bool (by simp), HB.out.trans (hb6.mono HB.out.size)⟩
theorem walk (D : BkD) (nm : ByteArray) (hnm : nm.size ≤ maxLen) (off : Int) (w : World) (HB : BkOk w w.heap.size D) (hL : laidMet Tryz.prog Rows.turnsTellsRow.laid w) :
    Calls Tryz.prog 3 #[.agg D.v, .string nm, .int .i64 off] w fun e w' => e = .returned (.bool true) ∧ Below w.heap.size w w' := by
  have HT := tab_of_laid (laidMet.tail (laidMet.tail hL))
  have HI : EraIn w := fun y hy => itoa_tab w y (by omega) HT
  exact walk_all D.AR D.AZ D.AL D.cR D.cZ D.cL D.rs D.zs D.ls nm off w HB HI

theorem door_met (os : Os) (args : Array Value) : laidMetH Tryz.prog Rows.turnsTellsRow.laid ((World.laidAll Tryz.prog os Rows.turnsTellsRow.laid).forCall (fun _ _ => 0) ⟨#[], args, []⟩).memory := by
  rw [MakeChecks.laidMetH_plain _ _ _ (by kernel_rfl)]
  exact laidMet_laidAll args (by kernel_rfl) (by kernel_rfl)
set_option maxRecDepth 100000 in
theorem lifted (os : Os) (started : os.Started) (H : Type) (enc : TypeId × Value → H) :
    ReturnsInHanded {} Tryz.checked os 3 .any (fun w args => (Rows.turnsTellsSpec.pre enc Tryz.prog Tryz.f3 [] false w args ∧ laidMetH Tryz.prog Rows.turnsTellsRow.laid w) ∧ sizedMet enc Tryz.prog Tryz.f3 (OpenSpec.ofChange Rows.turnsTellsSpec) false w args)
      (Rows.turnsTellsSpec.post enc Tryz.prog Tryz.f3 false true false false) := by
  refine returnsInHanded_of_change_and (C := Tryz.checked) (X := fun w _ => laidMetH Tryz.prog Rows.turnsTellsRow.laid w) (fun _ _ _ hh h => h.of_heap hh) own started (by kernel_rfl) Tryz.func3
    (ChangeSpec.witness_shaped (enc := enc) (C := Tryz.checked) (os := os) (X := fun w _ => laidMetH Tryz.prog Rows.turnsTellsRow.laid w) false (World.laidAll Tryz.prog os Rows.turnsTellsRow.laid) #[.agg #[.slice none 0 0, .slice none 0 0, .slice none 0 0], .string ⟨#[]⟩, .int .i64 0] 8 (World.laidAll_os _ _ _) (World.shaped_of_ZipB (by kernel_rfl) (by kernel_rfl)) (by kernel_rfl) (by kernel_rfl) (by kernel_rfl) (door_met os _)) ?_
  intro W base args ds gs before hval0 hW _ _ hL _
  rw [MakeChecks.laidMetH_plain _ _ _ (by kernel_rfl)] at hL
  have hval : ∀ (j : Nat) t v, Tryz.f3.params[j]? = some t → args[j]? = some v → Value.okWide Tryz.prog W .any base t v := hval0
  have hW' := hW
  have hltW : ∀ x ∈ before, x.block < W.heap.size := fun x hx => by simpa using hW.lt x hx
  obtain ⟨p, q, hA0, hV, rfl, hfz, hnd⟩ := hW
  have hlt : ∀ x ∈ p, x.block < W.heap.size := fun x hx => hltW x (by simp [hx])
  clear hltW
  have hA : DataW.TrodAll enc Tryz.prog W 0 (fun _ => true) true Tryz.f3.params.toList args.toList ds p := hA0
  rw [Tryz.params3] at hA hval
  obtain ⟨v0, vs0, d0, ds0, p0, q0, hargs, rfl, rfl, h0, r0⟩ := trodAll_cons hA
  obtain ⟨v1, vs1, d1, ds1, p1, q1, rfl, rfl, rfl, h1, r1⟩ := trodAll_cons r0
  obtain ⟨v2, vs2, d2, ds2, p2, q2, rfl, rfl, rfl, h2, r2⟩ := trodAll_cons r1
  obtain ⟨rfl, rfl, rfl⟩ := trodAll_nil r2
  obtain rfl : args = #[v0, v1, v2] := by cases args; simp_all
  obtain ⟨rfl, rfl⟩ := trodVars_none hV
  obtain ⟨D0, rfl, HB0⟩ := val_book (hval 0 26 v0 rfl rfl) h0
  obtain ⟨a1, rfl, rfl, rfl, w1⟩ := Go.ChangeMaps.open_string Tryz.underlying9 (hval 1 9 v1 rfl rfl) h1
  obtain ⟨a2, rfl, rfl, rfl, w2⟩ := open_int Tryz.underlying3 (hval 2 3 v2 rfl rfl) h2
  clear hA0 hval0
  refine (walk D0 a1 w1 a2 W HB0 hL).mono fun e W' ⟨he, hg⟩ => ?_
  subst he
  exact ⟨_, rfl, law_post rfl hW' rfl rfl rfl rfl (by rw [Tryz.params3]; decide +kernel) hg⟩

/-- the statement -/
theorem proved : Rows.TurnsTellsSaid :=
  OpenClaim.holds_of_wide 3 Tryz.f3 rfl rfl rfl rfl rfl rfl rfl ⟨rfl, rfl, rfl, rfl, rfl⟩ rfl rfl rfl rfl rfl (by kernel_rfl) Tryz.func3 (by kernel_rfl)
    (of_decide_eq_true (by kernel_rfl)) (by unfold Func.isWrapper; first | (rw [if_pos (by decide +kernel)]; kernel_rfl) | (rw [if_neg (by decide +kernel)]; exact ⟨rfl, rfl⟩))
    (fun os started H enc _ => lifted os started H enc)
/-- the tied card -/
theorem card : Rows.TurnsTellsCardSaid :=
  Claim7.holds_tied_plain_at .later [] [.data, .data, .data] true (true, "ee7847e288fee7e66eef2716021ccc79dd465b389d4d501099d400172deb19b5") true
    proved (fun _ h => by cases h) (by kernel_rfl) (fun _ h => by cases h) turnsTells_row_tie rfl ⟨rfl, rfl⟩ (by kernel_rfl) rfl
    (fun f fn hf hfn => by
      obtain rfl : f = 3 := Option.some.inj ((show Tryz.prog.funcNamed "timeball/timeballlaw.TurnsTells" = some 3 by kernel_rfl).symm.trans hf) |>.symm
      obtain rfl : fn = Tryz.f3 := (Option.some.inj (Tryz.func3.symm.trans hfn)).symm
      exact ⟨by kernel_rfl, fun j t ht => by
        have hm := Array.mem_of_getElem? ht
        have hall : (Tryz.f3.params.toList.all fun u => !Tryz.prog.wantsStandIn u) = true := by kernel_rfl
        exact (show Tryz.prog.wantsStandIn t = false by simpa using List.all_eq_true.1 hall t (by simpa using hm))⟩)
    (by kernel_rfl)
end Go.Proofs.YtanaoohgpdcfjaaGreatDoor.turnsTells
