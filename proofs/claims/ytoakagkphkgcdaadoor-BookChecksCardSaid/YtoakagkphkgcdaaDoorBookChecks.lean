/- The law BookChecks holds at every input: Check returns what the reference returns. No condition. -/
import Derived.Test.YtoakagkphkgcdaaDoorOpn
import Derived.Test.YtoakagkphkgcdaaDoorDoorK
import Derived.Test.YtoakagkphkgcdaaDoorOpenBk
import Derived.Test.YtoakagkphkgcdaaDoorBcJ
import Derived.Test.YtoakagkphkgcdaaDoorCards
import Derived.Test.YtoakagkphkgcdaaDoorTie
import Derived.LaidMore
import Derived.OpenShut
import Derived.Stop.Joined
import Derived.SevenTiedAt
import Derived.Lay
import Derived.MakeChecks
namespace Go.Proofs.YtoakagkphkgcdaaDoor.bookChecks
open Go.ChangeShapes Go.WideShapes Go.ChangeAt Go.RowKit
set_option linter.unusedVariables false
set_option linter.unusedSimpArgs false
/-- the book of one nameless zone -/
abbrev oneD (g : Nat) : BkD := ⟨none, some ⟨g, 0, none⟩, none, 0, 1, 0, [], [⟨⟨#[]⟩, none, 0, []⟩], []⟩
theorem oneE : bookE [] [(⟨⟨#[]⟩, none, 0, []⟩ : ZoT)] [] = 3 := by
  refine bookE_zo (by simp) rfl ?_ (by decide)
  have : isNameB (⟨#[]⟩ : ByteArray).data.toList = false := rfl
  show (if (0 : Int) = 0 then zoE [] [(⟨⟨#[]⟩, none, 0, []⟩ : ZoT)] 0 else 0) = 3
  rw [if_pos rfl, zoE]
  exact if_pos this
theorem oneOk {w : World} {g : Nat} (hg : g < w.heap.size) (h0 : w.cell? ⟨g, 0, none⟩ = some (.string ⟨#[]⟩)) (h1 : w.cell? ⟨g, 1, none⟩ = some (.slice none 0 0)) : BkOk w w.heap.size (oneD g) := by
  refine ⟨SlAt.none_ _ _ _ _, ?_, SlAt.none_ _ _ _ _, by simp, by simp, by simp, by unfold maxLen; simp, by unfold maxLen; simp, by unfold maxLen; simp, by simp, ?_, by simp⟩
  · intro _
    refine ⟨g, 0, rfl, hg, fun i hi j hj => ?_⟩
    obtain rfl : i = 0 := by simp at hi; omega
    match j, hj with
    | 0, _ => exact h0
    | 1, _ => exact h1
  · intro z hz
    obtain rfl := List.mem_singleton.1 hz
    exact ⟨show (0 : Nat) ≤ maxLen from Nat.zero_le _, SlAt.none_ _ _ _ _, by simp, by unfold maxLen; simp, by simp⟩
set_option maxRecDepth 100000 in
set_option maxHeartbeats 4000000 in
theorem walk' (AR AZ AL : Option Addr) (cR cZ cL : Nat) (rs : List RuT) (zs : List ZoT) (ls : List LkT) (w : World) (HB : BkOk w w.heap.size ⟨AR, AZ, AL, cR, cZ, cL, rs, zs, ls⟩) (hL : laidMet Tryd.prog Rows.bookChecksRow.laid w) :
    Calls Tryd.prog 3 #[.agg #[.slice AR rs.length cR, .slice AZ zs.length cZ, .slice AL ls.length cL]] w fun e w' => e = .returned (.bool true) ∧ Below w.heap.size w w' := by
  have HT := Lib.hid (tab_of_laid (laidMet.tail (laidMet.tail hL)))
  have HI : EraIn w := fun y hy => itoa_tab w y (by omega) HT.out
  have HK := Lib.hid (fun (V : World) (hb : Below w.heap.size w V) => c_Check' AR AZ AL cR cZ cL rs zs ls V (HB.step hb) (HI.on hb))
  have HR := Lib.hid (fun (V : World) (hb : Below w.heap.size w V) => r_BookCheck' AR AZ AL cR cZ cL rs zs ls V (HB.step hb))
  have HI := Lib.hid HI
  clear hL HB HT
  go_enter Tryd.func3, Tryd.ntmps3
  go_upto_region 1 with fail
  have X1 := TK.box w #[.slice AR rs.length cR, .slice AZ zs.length cZ, .slice AL ls.length cL] 26
  obtain ⟨W, hW⟩ : ∃ W, w.alloc (.cells #[.slice AR rs.length cR, .slice AZ zs.length cZ, .slice AL ls.length cL] 26) = W := ⟨_, rfl⟩
  rw [hW] at X1 ⊢
  clear hW
  have hcs := X1.1
  have hcz := X1.2.1
  have HB0 := Lib.hid X1.2.2
  clear X1
  refine wp_region_noPanic ?_
  refine wp_region_held_drew (S := fun W' : World => Below W.heap.size W W') (by kernel_rfl) (Below.refl _ _).drew (fun hHeld0 => ?_)
  have hHeld : Below W.heap.size W W.drew := hHeld0
  clear hHeld0
  refine wpAnyH_take (i := 0) (v := ?_) rfl (by kernel_rfl) (by kernel_rfl) (by kernel_rfl) (fun _ _ _ h => h) (Or.inl ⟨by rfl, ?_⟩) hHeld ?_
  rotate_left
  · intro wq hSw
    have qb := fun i => (hSw.cell (p := ⟨w.heap.size, i, none⟩) hcz).trans (hcs i)
    go_simp
    try with_reducible rfl
  try simp only [Act.put, List.getElem_toArray, List.getElem_cons_succ, List.getElem_cons_zero, List.setIfInBounds_toArray, List.set_cons_zero, List.set_cons_succ]
  refine wpAnyH_take (i := 2) (v := ?_) rfl (by kernel_rfl) (by kernel_rfl) (by kernel_rfl) (fun _ _ _ h => h) (Or.inl ⟨by rfl, ?_⟩) hHeld ?_
  rotate_left
  · intro wq hSw
    have qb := fun i => (hSw.cell (p := ⟨w.heap.size, i, none⟩) hcz).trans (hcs i)
    go_simp
    try with_reducible rfl
  try simp only [Act.put, List.getElem_toArray, List.getElem_cons_succ, List.getElem_cons_zero, List.setIfInBounds_toArray, List.set_cons_zero, List.set_cons_succ]
  refine wpAnyH_ready (rs := [1]) (by kernel_rfl) (by simp) ?_
  refine AllReadyH.cons rfl (fun K hK => ?_) AllReadyH.nil
  go_simp
  go_at_call 6
  refine (HK.out _ (HB0.out.trans (hHeld.mono HB0.out.size))).mono ?_
  rintro e w8 ⟨rfl, hb8⟩
  have hS8 := hHeld.trans (hb8.mono hHeld.size)
  try go_wp2_with fail
  refine hK.out _ _ hS8 (fun hHeld2 => ?_)
  clear hK K hHeld hb8
  have hHeld := hS8
  clear hS8 hHeld2
  try simp only [Act.put, List.getElem_toArray, List.getElem_cons_succ, List.getElem_cons_zero, List.setIfInBounds_toArray, List.set_cons_zero, List.set_cons_succ]
  refine wpAnyH_ready (rs := [3]) (by kernel_rfl) (by simp) ?_
  refine AllReadyH.cons rfl (fun K hK => ?_) AllReadyH.nil
  go_simp
  go_at_call 7
  refine (HR.out _ (HB0.out.trans (hHeld.mono HB0.out.size))).mono ?_
  rintro e w8 ⟨rfl, hb8⟩
  have hS8 := hHeld.trans (hb8.mono hHeld.size)
  try go_wp2_with fail
  refine hK.out _ _ hS8 (fun hHeld2 => ?_)
  clear hK K hHeld hb8
  have hHeld := hS8
  clear hS8 hHeld2
  try simp only [Act.put, List.getElem_toArray, List.getElem_cons_succ, List.getElem_cons_zero, List.setIfInBounds_toArray, List.set_cons_zero, List.set_cons_succ]
  refine wpAnyH_take (i := 4) (v := ?_) rfl (by kernel_rfl) (by kernel_rfl) (by kernel_rfl) (fun _ _ _ h => h) (Or.inl ⟨by rfl, ?_⟩) hHeld ?_
  rotate_left
  · intro wq hSw
    go_simp
    try with_reducible rfl
  try simp only [Act.put, List.getElem_toArray, List.getElem_cons_succ, List.getElem_cons_zero, List.setIfInBounds_toArray, List.set_cons_zero, List.set_cons_succ]
  refine wpAnyH_take (i := 5) (v := ?_) rfl (by kernel_rfl) (by kernel_rfl) (by kernel_rfl) (fun _ _ _ h => h) (Or.inl ⟨by rfl, ?_⟩) hHeld ?_
  rotate_left
  · intro wq hSw
    go_simp
    try with_reducible rfl
  try simp only [Act.put, List.getElem_toArray, List.getElem_cons_succ, List.getElem_cons_zero, List.setIfInBounds_toArray, List.set_cons_zero, List.set_cons_succ]
  refine wpAnyH_take (i := 6) (v := ?_) rfl (by kernel_rfl) (by kernel_rfl) (by kernel_rfl) (fun _ _ _ h => h) (Or.inl ⟨by rfl, ?_⟩) hHeld ?_
  rotate_left
  · intro wq hSw
    go_simp
    try with_reducible rfl
  try simp only [Act.put, List.getElem_toArray, List.getElem_cons_succ, List.getElem_cons_zero, List.setIfInBounds_toArray, List.set_cons_zero, List.set_cons_succ]
  refine wpAnyH_ready (rs := [7]) (by kernel_rfl) (by simp) ?_
  refine AllReadyH.cons rfl (fun K hK => ?_) AllReadyH.nil
  go_simp
  have hS8 := hHeld.trans (((Below.refl _ _).alloc (Nat.le_refl _) (.cells #[.string ⟨#[]⟩, .slice none 0 0] 31)).mono hHeld.size)
  refine hK.out _ _ hS8 (fun hHeld2 => ?_)
  clear hK K hHeld hHeld2
  have hHeld := hS8
  clear hS8
  try simp only [Act.put, List.getElem_toArray, List.getElem_cons_succ, List.getElem_cons_zero, List.setIfInBounds_toArray, List.set_cons_zero, List.set_cons_succ]
  refine wpAnyH_take (i := 8) (v := ?_) rfl (by kernel_rfl) (by kernel_rfl) (by kernel_rfl) (fun _ _ _ h => h) (Or.inl ⟨by rfl, ?_⟩) hHeld ?_
  rotate_left
  · intro wq hSw
    go_simp
    try with_reducible rfl
  try simp only [Act.put, List.getElem_toArray, List.getElem_cons_succ, List.getElem_cons_zero, List.setIfInBounds_toArray, List.set_cons_zero, List.set_cons_succ]
  have X9 := TK.box w8 #[.string ⟨#[]⟩, .slice none 0 0] 31
  have HO := Lib.hid (c_Check (oneD w8.heap.size) _ (oneOk X9.2.1 (X9.1 0) (X9.1 1)) (HI.out.on (HB0.out.trans (hHeld.mono HB0.out.size))))
  rw [show bookE (oneD w8.heap.size).rs (oneD w8.heap.size).zs (oneD w8.heap.size).ls = 3 from oneE] at HO
  clear X9
  refine wpAnyH_ready (rs := [9]) (by kernel_rfl) (by simp) ?_
  refine AllReadyH.cons rfl (fun K hK => ?_) AllReadyH.nil
  go_simp
  go_at_call 6
  refine (HO.out).mono ?_
  rintro e w9 ⟨rfl, hb8⟩
  have hS8 := hHeld.trans (hb8.mono hHeld.size)
  try go_wp2_with fail
  refine hK.out _ _ hS8 (fun hHeld2 => ?_)
  clear hK K hHeld hb8
  have hHeld := hS8
  clear hS8 hHeld2
  try simp only [Act.put, List.getElem_toArray, List.getElem_cons_succ, List.getElem_cons_zero, List.setIfInBounds_toArray, List.set_cons_zero, List.set_cons_succ]
  refine wpAnyH_take (i := 10) (v := ?_) rfl (by kernel_rfl) (by kernel_rfl) (by kernel_rfl) (fun _ _ _ h => h) (Or.inl ⟨by rfl, ?_⟩) hHeld ?_
  rotate_left
  · intro wq hSw
    go_simp
    try with_reducible rfl
  try simp only [Act.put, List.getElem_toArray, List.getElem_cons_succ, List.getElem_cons_zero, List.setIfInBounds_toArray, List.set_cons_zero, List.set_cons_succ]
  refine wpAnyH_take (i := 11) (v := ?_) rfl (by kernel_rfl) (by kernel_rfl) (by kernel_rfl) (fun _ _ _ h => h) (Or.inl ⟨by rfl, ?_⟩) hHeld ?_
  rotate_left
  · intro wq hSw
    go_simp
    try with_reducible rfl
  try simp only [Act.put, List.getElem_toArray, List.getElem_cons_succ, List.getElem_cons_zero, List.setIfInBounds_toArray, List.set_cons_zero, List.set_cons_succ]
  refine wpAnyH_take (i := 12) (v := ?_) rfl (by kernel_rfl) (by kernel_rfl) (by kernel_rfl) (fun _ _ _ h => h) (Or.inl ⟨by rfl, ?_⟩) hHeld ?_
  rotate_left
  · intro wq hSw
    go_simp
    try with_reducible rfl
  try simp only [Act.put, List.getElem_toArray, List.getElem_cons_succ, List.getElem_cons_zero, List.setIfInBounds_toArray, List.set_cons_zero, List.set_cons_succ]
  refine wpAnyH_done (by kernel_rfl) ?_ _
  refine NoPanic.normal ?_
  go_wp2_with fail
  go_ret
  exact ⟨rfl, HB0.out.trans (hHeld.mono HB0.out.size)⟩
theorem walk (D : BkD) (w : World) (HB : BkOk w w.heap.size D) (hL : laidMet Tryd.prog Rows.bookChecksRow.laid w) :
    Calls Tryd.prog 3 #[.agg D.v] w fun e w' => e = .returned (.bool true) ∧ Below w.heap.size w w' :=
  walk' D.AR D.AZ D.AL D.cR D.cZ D.cL D.rs D.zs D.ls w HB hL

theorem door_met (os : Os) (args : Array Value) : laidMetH Tryd.prog Rows.bookChecksRow.laid ((World.laidAll Tryd.prog os Rows.bookChecksRow.laid).forCall (fun _ _ => 0) ⟨#[], args, []⟩).memory := by
  rw [MakeChecks.laidMetH_plain _ _ _ (by kernel_rfl)]
  exact laidMet_laidAll args (by kernel_rfl) (by kernel_rfl)
set_option maxRecDepth 100000 in
theorem lifted (os : Os) (started : os.Started) (H : Type) (enc : TypeId × Value → H) :
    ReturnsInHanded {} Tryd.checked os 3 .any (fun w args => (Rows.bookChecksSpec.pre enc Tryd.prog Tryd.f3 [] false w args ∧ laidMetH Tryd.prog Rows.bookChecksRow.laid w) ∧ sizedMet enc Tryd.prog Tryd.f3 (OpenSpec.ofChange Rows.bookChecksSpec) false w args)
      (Rows.bookChecksSpec.post enc Tryd.prog Tryd.f3 false true false false) := by
  refine returnsInHanded_of_change_and (C := Tryd.checked) (X := fun w _ => laidMetH Tryd.prog Rows.bookChecksRow.laid w) (fun _ _ _ hh h => h.of_heap hh) own started (by kernel_rfl) Tryd.func3
    (ChangeSpec.witness_shaped (enc := enc) (C := Tryd.checked) (os := os) (X := fun w _ => laidMetH Tryd.prog Rows.bookChecksRow.laid w) false (World.laidAll Tryd.prog os Rows.bookChecksRow.laid) #[.agg #[.slice none 0 0, .slice none 0 0, .slice none 0 0]] 8 (World.laidAll_os _ _ _) (World.shaped_of_ZipB (by kernel_rfl) (by kernel_rfl)) (by kernel_rfl) (by kernel_rfl) (by kernel_rfl) (door_met os _)) ?_
  intro W base args ds gs before hval0 hW _ _ hL _
  rw [MakeChecks.laidMetH_plain _ _ _ (by kernel_rfl)] at hL
  have hval : ∀ (j : Nat) t v, Tryd.f3.params[j]? = some t → args[j]? = some v → Value.okWide Tryd.prog W .any base t v := hval0
  have hW' := hW
  have hltW : ∀ x ∈ before, x.block < W.heap.size := fun x hx => by simpa using hW.lt x hx
  obtain ⟨p, q, hA0, hV, rfl, hfz, hnd⟩ := hW
  have hlt : ∀ x ∈ p, x.block < W.heap.size := fun x hx => hltW x (by simp [hx])
  clear hltW
  have hA : DataW.TrodAll enc Tryd.prog W 0 (fun _ => true) true Tryd.f3.params.toList args.toList ds p := hA0
  rw [Tryd.params3] at hA hval
  obtain ⟨v0, vs0, d0, ds0, p0, q0, hargs, rfl, rfl, h0, r0⟩ := trodAll_cons hA
  obtain ⟨rfl, rfl, rfl⟩ := trodAll_nil r0
  obtain rfl : args = #[v0] := by cases args; simp_all
  obtain ⟨rfl, rfl⟩ := trodVars_none hV
  obtain ⟨D0, rfl, HB0⟩ := val_book (hval 0 26 v0 rfl rfl) h0
  clear hA0 hval0
  refine (walk D0 W HB0 hL).mono fun e W' ⟨he, hg⟩ => ?_
  subst he
  exact ⟨_, rfl, law_post rfl hW' rfl rfl rfl rfl (by rw [Tryd.params3]; decide +kernel) hg⟩

/-- the statement -/
theorem proved : Rows.BookChecksSaid :=
  OpenClaim.holds_of_wide 3 Tryd.f3 rfl rfl rfl rfl rfl rfl rfl ⟨rfl, rfl, rfl, rfl, rfl⟩ rfl rfl rfl rfl rfl (by kernel_rfl) Tryd.func3 (by kernel_rfl)
    (of_decide_eq_true (by kernel_rfl)) (by unfold Func.isWrapper; first | (rw [if_pos (by decide +kernel)]; kernel_rfl) | (rw [if_neg (by decide +kernel)]; exact ⟨rfl, rfl⟩))
    (fun os started H enc _ => lifted os started H enc)
/-- the tied card -/
theorem card : Rows.BookChecksCardSaid :=
  Claim7.holds_tied_plain_at .later [] [.data, .data, .data] true (true, "a0dbecb91f1470c4ebc5db8fbb74cc3e398332df58a112a40a711063ba3ed9ee") false
    proved (fun _ h => by cases h) (by kernel_rfl) (fun _ h => by cases h) bookChecks_row_tie rfl ⟨rfl, rfl⟩ (by kernel_rfl) rfl
    (fun f fn hf hfn => by
      obtain rfl : f = 3 := Option.some.inj ((show Tryd.prog.funcNamed "timeball/timeballlaw.BookChecks" = some 3 by kernel_rfl).symm.trans hf) |>.symm
      obtain rfl : fn = Tryd.f3 := (Option.some.inj (Tryd.func3.symm.trans hfn)).symm
      exact ⟨by kernel_rfl, fun j t ht => by
        have hm := Array.mem_of_getElem? ht
        have hall : (Tryd.f3.params.toList.all fun u => !Tryd.prog.wantsStandIn u) = true := by kernel_rfl
        exact (show Tryd.prog.wantsStandIn t = false by simpa using List.all_eq_true.1 hall t (by simpa using hm))⟩)
    (by kernel_rfl)
end Go.Proofs.YtoakagkphkgcdaaDoor.bookChecks
