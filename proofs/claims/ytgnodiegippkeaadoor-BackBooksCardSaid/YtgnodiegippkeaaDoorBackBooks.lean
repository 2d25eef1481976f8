/- The law BackBooks holds at every input: Book returns what the reference returns. No condition. -/
import Derived.Test.YtgnodiegippkeaaDoorLawKit
import Derived.Test.YtgnodiegippkeaaDoorOpenSl
import Derived.Test.YtgnodiegippkeaaDoorDoorK
import Derived.Test.YtgnodiegippkeaaDoorBbC
import Derived.Test.YtgnodiegippkeaaDoorBbR
import Derived.Test.YtgnodiegippkeaaDoorEqL
import Derived.Test.YtgnodiegippkeaaDoorEqZ
import Derived.Test.YtgnodiegippkeaaDoorCards
import Derived.Test.YtgnodiegippkeaaDoorTie
import Derived.LaidMore
import Derived.OpenShut
import Derived.Stop.Joined
import Derived.SevenTiedAt
import Derived.Lay
import Derived.MakeChecks
namespace Go.Proofs.YtgnodiegippkeaaDoor.backBooks
open Go.ChangeShapes Go.WideShapes Go.ChangeAt Go.RowKit
set_option linter.unusedVariables false
theorem r_bad (A C : Option Addr) (capT capC : Nat) (ts : List Ty) (first : Int) (cs : List Ch) (nm : ByteArray) (w : World) (H : TabAt w A C capT capC ts cs) (h0 : ¬ tabE ts first cs = 0) :
    Calls Tryd.prog 10 #[.agg #[.slice A ts.length capT, .int .i64 first, .slice C cs.length capC], .string nm] w (BbBad (tabE ts first cs) w) := r_Book_bad A C capT capC ts first cs nm w H h0
/-- what both leave: an error, or the same book -/
def Both (nm : ByteArray) (w : World) (E : Int) (ers : List ErT) (e : Ending) (w' : World) : Prop := (E ≠ 0 ∧ BbBad E w e w') ∨ (E = 0 ∧ BbGood nm ers w e w')
theorem both (A C : Option Addr) (capT capC : Nat) (ts : List Ty) (first : Int) (cs : List Ch) (nm : ByteArray) (hn : nm.size ≤ maxLen) (hwf : ∀ t ∈ ts, t.2.2.size ≤ maxLen) (w : World) (H : TabAt w A C capT capC ts cs) (HI : ∀ y : Nat, y < 10000 → ItoaIn w y) :
    ∃ E ers, Calls Tryd.prog 9 #[.agg #[.slice A ts.length capT, .int .i64 first, .slice C cs.length capC], .string nm] w (Both nm w E ers) ∧
      (∀ W, Below w.heap.size w W → Calls Tryd.prog 10 #[.agg #[.slice A ts.length capT, .int .i64 first, .slice C cs.length capC], .string nm] W (Both nm W E ers)) := by
  by_cases h0 : tabE ts first cs = 0
  · cases h2 : isNameB nm.data.toList with
    | false => exact ⟨3, [], (b_Book_3 A C capT capC ts first cs nm hn w H h0 h2).mono fun e w' h => Or.inl ⟨by decide, h⟩, fun W hW => (r_Book_3 A C capT capC ts first cs nm hn W (H.below hW) h0 h2).mono fun e w' h => Or.inl ⟨by decide, h⟩⟩
    | true =>
      have hK := tabOk h0
      obtain ⟨s, hs⟩ : ∃ s, normSt ts first cs = s := ⟨_, rfl⟩
      have hok : NsOk s := by rw [← hs]; exact nBuild_ok _ _
      have htm : ∀ c ∈ s.cs, -1099511627776 ≤ c.1 ∧ c.1 ≤ 1099511627776 := by
        rw [← hs]
        refine nBuild_times (fun t => -1099511627776 ≤ t ∧ t ≤ 1099511627776) _ _ (fun c hc => ?_)
        obtain ⟨d, hd, rfl⟩ := List.mem_map.1 hc
        have := hK.range d hd
        exact ⟨this.1, this.2.1⟩
      have hget : ∀ i, -75600 ≤ (ts.getD i tyZero).1 ∧ (ts.getD i tyZero).1 ≤ 75600 := by
        intro i
        by_cases hi : i < ts.length
        · have e : ts.getD i tyZero = ts[i] := by simp [List.getD, hi]
          rw [e]
          have := hK.types _ (List.getElem_mem hi)
          exact ⟨this.1, this.2.1⟩
        · have e : ts.getD i tyZero = tyZero := by simp [List.getD, hi]
          rw [e]; simp [tyZero]
      have hty : ∀ t ∈ s.ts, -75600 ≤ t.1 ∧ t.1 ≤ 75600 := by
        rw [← hs]
        refine nBuild_all (fun t => -75600 ≤ t.1 ∧ t.1 ≤ 75600) _ _ (hget _) (fun c hc => ?_)
        obtain ⟨d, _, rfl⟩ := List.mem_map.1 hc
        exact hget _
      have hln := nBuild_len (ts.getD first.toNat tyZero) (cs.map (chTy ts))
      have hln2 : s.ts.length ≤ (cs.map (chTy ts)).length + 1 ∧ s.cs.length ≤ (cs.map (chTy ts)).length := by rw [← hs]; exact hln
      rw [List.length_map] at hln2
      have hcm := hK.cmax
      have h1 := b_Book_main A C capT capC ts first cs nm hn w H h0 h2 HI s hs hok htm hty (by omega) (by omega)
      have h3 := fun W (hW : Below w.heap.size w W) => r_Book_main A C capT capC ts first cs nm hn W (H.below hW) h0 h2 s hs hok htm hty (by omega) (by omega)
      by_cases h7 : 700 ≤ s.cs.length
      · refine ⟨2, [], h1.mono fun e w' h => ?_, fun W hW => (h3 W hW).mono fun e w' h => ?_⟩
        all_goals
          rcases h with ⟨_, h⟩ | ⟨h, _⟩
          · exact Or.inl ⟨by decide, h⟩
          · omega
      · cases hb : bbOk s with
        | true =>
          refine ⟨0, bbEras s (s.cs.length + 1), h1.mono fun e w' h => ?_, fun W hW => (h3 W hW).mono fun e w' h => ?_⟩
          all_goals
            rcases h with ⟨h, _⟩ | ⟨_, h⟩
            · omega
            · rcases h with ⟨_, h⟩ | ⟨h, _⟩
              · exact Or.inr ⟨rfl, h⟩
              · rw [hb] at h; cases h
        | false =>
          refine ⟨1, [], h1.mono fun e w' h => ?_, fun W hW => (h3 W hW).mono fun e w' h => ?_⟩
          all_goals
            rcases h with ⟨h, _⟩ | ⟨_, h⟩
            · omega
            · rcases h with ⟨h, _⟩ | ⟨_, h⟩
              · rw [hb] at h; cases h
              · exact Or.inl ⟨by decide, h⟩
  · exact ⟨_, [], (b_Book_bad A C capT capC ts first cs nm w H h0).mono fun e w' h => Or.inl ⟨h0, h⟩, fun W hW => (r_bad A C capT capC ts first cs nm W (H.below hW) h0).mono fun e w' h => Or.inl ⟨h0, h⟩⟩
set_option maxRecDepth 100000 in
set_option maxHeartbeats 4000000 in
theorem walk (A C : Option Addr) (capT capC : Nat) (ts : List Ty) (first : Int) (cs : List Ch) (nm : ByteArray) (hn : nm.size ≤ maxLen) (w : World) (H : TabAt w A C capT capC ts cs) (hL : laidMet Tryd.prog Rows.backBooksRow.laid w) :
    Calls Tryd.prog 4 #[.agg #[.slice A ts.length capT, .int .i64 first, .slice C cs.length capC], .string nm] w fun e w' => e = .returned (.bool true) ∧ Below w.heap.size w w' := by
  have hb0 : Below w.heap.size w (w.alloc (.cells #[.slice A ts.length capT, .int .i64 first, .slice C cs.length capC] 32)) := (by repeat (first | exact Below.refl _ _ | assumption | apply Below.drew | apply below_drewN | (refine Below.alloc ?_ (by simp; try omega) _) | (refine Below.setCell ?_ (by simp; try omega) _)))
  have X1 := Lib.hid (Bx.new w #[.slice A ts.length capT, .int .i64 first, .slice C cs.length capC] 32)
  have HT := Lib.hid (tab_of_laid (laidMet.tail (laidMet.tail hL)))
  have HI0 : ∀ y : Nat, y < 10000 → ItoaIn (w.alloc (.cells #[.slice A ts.length capT, .int .i64 first, .slice C cs.length capC] 32)) y := fun y hy => (itoa_tab w y (by omega) HT.out).on hb0
  obtain ⟨E, ers, hi, hr⟩ := both A C capT capC ts first cs nm hn H.names _ (H.below hb0) HI0
  have HI := Lib.hid hi
  have HR := Lib.hid hr
  clear hi hr HI0 hL HT
  by_cases h0 : E = 0
  · have H0 := Lib.hid h0
    clear h0
    go_enter Tryd.func4, Tryd.ntmps4
    go_wp2_with fail
    refine (show Calls Tryd.prog _ _ _ _ from HI.out).mono ?_
    rintro e w1 (⟨h, _⟩ | ⟨_, g, cz, E1, ce, rfl, hb, bk⟩)
    · exact absurd H0.out h
    have x1 := X1.out.step hb
    have hb1 := hb0.trans (hb.mono hb0.size)
    have hcs := x1.1
    have hz := x1.2.2
    have HR2 := Lib.hid hb
    clear hb X1
    have hb2 := hb1.alloc (Nat.le_of_lt hz) (.cells #[.slice none 0 0, .slice (some ⟨g, 0, none⟩) 1 cz, .slice none 0 0] 37)
    have bk1 := Lib.hid (bk.step ((Below.refl _ _).alloc (Nat.le_refl _) (.cells #[.slice none 0 0, .slice (some ⟨g, 0, none⟩) 1 cz, .slice none 0 0] 37)))
    have xa := Bx.new w1 #[.slice none 0 0, .slice (some ⟨g, 0, none⟩) 1 cz, .slice none 0 0] 37
    have hbr := Lib.hid (HR2.out.alloc HR2.out.size (.cells #[.slice none 0 0, .slice (some ⟨g, 0, none⟩) 1 cz, .slice none 0 0] 37))
    clear bk
    go_wp2_with fail
    refine (show Calls Tryd.prog _ _ _ _ from HR.out _ hbr.out).mono ?_
    rintro e w2 (⟨h, _⟩ | ⟨_, g2, cz2, E2, ce2, rfl, hb, bk⟩)
    · exact absurd H0.out h
    have hb3 := hb2.trans (hb.mono hb2.size)
    have x2 := (xa.step hb).alloc (.cells #[.slice none 0 0, .slice (some ⟨g2, 0, none⟩) 1 cz2, .slice none 0 0] 37)
    have bk2 := Lib.hid ((bk1.out.step hb).step ((Below.refl _ _).alloc (Nat.le_refl _) (.cells #[.slice none 0 0, .slice (some ⟨g2, 0, none⟩) 1 cz2, .slice none 0 0] 37)))
    have bk3 := Lib.hid (bk.step ((Below.refl _ _).alloc (Nat.le_refl _) (.cells #[.slice none 0 0, .slice (some ⟨g2, 0, none⟩) 1 cz2, .slice none 0 0] 37)))
    have hb4 := hb3.alloc hb3.size (.cells #[.slice none 0 0, .slice (some ⟨g2, 0, none⟩) 1 cz2, .slice none 0 0] 37)
    have xb := Bx.new w2 #[.slice none 0 0, .slice (some ⟨g2, 0, none⟩) 1 cz2, .slice none 0 0] 37
    clear hb hcs bk bk1 xa hb2 hbr HR2
    go_wp2_with fail
    refine (b_Book_zero _ _).mono ?_
    rintro e w3 ⟨rfl, hb⟩
    have hb5 := (hb4.trans (hb.mono hb4.size)).alloc (hb4.trans (hb.mono hb4.size)).size (.cells #[.slice none 0 0, .slice none 0 0, .slice none 0 0] 37)
    have ha := (Below.refl w3.heap.size w3).alloc (Nat.le_refl _) (.cells #[.slice none 0 0, .slice none 0 0, .slice none 0 0] 37)
    have x3 := (x2.step hb).alloc (.cells #[.slice none 0 0, .slice none 0 0, .slice none 0 0] 37)
    have x4 := (xb.step hb).alloc (.cells #[.slice none 0 0, .slice none 0 0, .slice none 0 0] 37)
    obtain ⟨a4, a5, a6, a7, a8, a9, a10, a11⟩ := (bk2.out.step hb).step ha
    obtain ⟨b4, b5, b6, b7, b8, b9, b10, b11⟩ := (bk3.out.step hb).step ha
    have HE := Lib.hid (r_BookEqL nm ers [] none none E1 E2 g g2 0 0 cz cz2 ce ce2 _ (SlAt.none_ _ _ _ _) (SlAt.none_ _ _ _ _) (by simp) (by simp) (by unfold maxLen; omega) (by unfold maxLen; omega) a4 b4 a5 a6 b5 b6 a7 b7 a8 b8 a9 b9 a10 b10 a11 b11)
    have h3 := x3.1
    have h4 := x4.1
    have h5 := x3.2.2
    have h6 := x4.2.2
    have y3 := (x2.step hb).1
    have y4 := (xb.step hb).1
    have y5 := (x2.step hb).2.2
    have y6 := (xb.step hb).2.2
    clear hb ha x2 xb x3 x4 bk2 bk3 a4 b4 a5 a6 b5 b6 a7 b7 a8 b8 a9 b9 a10 b10 a11 b11
    go_wp2_with fail
    refine (show Calls Tryd.prog _ _ _ _ from HE.out).mono ?_
    rintro e w4 ⟨rfl, hb⟩
    go_wp2_with fail
    go_ret
    exact ⟨ret_bool (by simp), hb5.trans (hb.mono hb5.size)⟩
  · have H0 := Lib.hid h0
    clear h0
    go_enter Tryd.func4, Tryd.ntmps4
    go_wp2_with fail
    refine (show Calls Tryd.prog _ _ _ _ from HI.out).mono ?_
    rintro e w1 (⟨_, rfl, hb⟩ | ⟨h, _⟩)
    rotate_left
    · exact absurd h H0.out
    have x1 := X1.out.step hb
    have hb1 := hb0.trans (hb.mono hb0.size)
    have hcs := x1.1
    have hz := x1.2.2
    have HR2 := Lib.hid hb
    clear hb X1
    have hb2 := hb1.alloc (Nat.le_of_lt hz) (.cells #[.slice none 0 0, .slice none 0 0, .slice none 0 0] 37)
    have xa := Bx.new w1 #[.slice none 0 0, .slice none 0 0, .slice none 0 0] 37
    have hbr := Lib.hid (HR2.out.alloc HR2.out.size (.cells #[.slice none 0 0, .slice none 0 0, .slice none 0 0] 37))
    go_wp2_with fail
    refine (show Calls Tryd.prog _ _ _ _ from HR.out _ hbr.out).mono ?_
    rintro e w2 (⟨_, rfl, hb⟩ | ⟨h, _⟩)
    rotate_left
    · exact absurd h H0.out
    have hb3 := hb2.trans (hb.mono hb2.size)
    have x2 := (xa.step hb).alloc (.cells #[.slice none 0 0, .slice none 0 0, .slice none 0 0] 37)
    have hb4 := hb3.alloc hb3.size (.cells #[.slice none 0 0, .slice none 0 0, .slice none 0 0] 37)
    have xb := Bx.new w2 #[.slice none 0 0, .slice none 0 0, .slice none 0 0] 37
    clear hb hcs xa hb2 hbr HR2
    go_wp2_with fail
    refine (b_Book_zero _ _).mono ?_
    rintro e w3 ⟨rfl, hb⟩
    have hb5 := (hb4.trans (hb.mono hb4.size)).alloc (hb4.trans (hb.mono hb4.size)).size (.cells #[.slice none 0 0, .slice none 0 0, .slice none 0 0] 37)
    have y3 := (x2.step hb).1
    have y4 := (xb.step hb).1
    have y5 := (x2.step hb).2.2
    have y6 := (xb.step hb).2.2
    clear hb x2 xb
    go_wp2_with fail
    refine (r_BookEq0 _).mono ?_
    rintro e w4 ⟨rfl, hb⟩
    go_wp2_with fail
    go_ret
    exact ⟨ret_bool (by simp), hb5.trans (hb.mono hb5.size)⟩

theorem door_met (os : Os) (args : Array Value) : laidMetH Tryd.prog Rows.backBooksRow.laid ((World.laidAll Tryd.prog os Rows.backBooksRow.laid).forCall (fun _ _ => 0) ⟨#[], args, []⟩).memory := by
  rw [MakeChecks.laidMetH_plain _ _ _ (by kernel_rfl)]
  exact laidMet_laidAll args (by kernel_rfl) (by kernel_rfl)
set_option maxRecDepth 100000 in
theorem lifted (os : Os) (started : os.Started) (H : Type) (enc : TypeId × Value → H) :
    ReturnsInHanded {} Tryd.checked os 4 .any (fun w args => (Rows.backBooksSpec.pre enc Tryd.prog Tryd.f4 [] false w args ∧ laidMetH Tryd.prog Rows.backBooksRow.laid w) ∧ sizedMet enc Tryd.prog Tryd.f4 (OpenSpec.ofChange Rows.backBooksSpec) false w args)
      (Rows.backBooksSpec.post enc Tryd.prog Tryd.f4 false true false false) := by
  refine returnsInHanded_of_change_and (C := Tryd.checked) (X := fun w _ => laidMetH Tryd.prog Rows.backBooksRow.laid w) (fun _ _ _ hh h => h.of_heap hh) own started (by kernel_rfl) Tryd.func4
    (ChangeSpec.witness_shaped (enc := enc) (C := Tryd.checked) (os := os) (X := fun w _ => laidMetH Tryd.prog Rows.backBooksRow.laid w) false (World.laidAll Tryd.prog os Rows.backBooksRow.laid) #[.agg #[.slice none 0 0, .int .i64 0, .slice none 0 0], .string ⟨#[]⟩] 8 (World.laidAll_os _ _ _) (World.shaped_of_ZipB (by kernel_rfl) (by kernel_rfl)) (by kernel_rfl) (by kernel_rfl) (by kernel_rfl) (door_met os _)) ?_
  intro W base args ds gs before hval0 hW _ _ hL _
  rw [MakeChecks.laidMetH_plain _ _ _ (by kernel_rfl)] at hL
  have hval : ∀ (j : Nat) t v, Tryd.f4.params[j]? = some t → args[j]? = some v → Value.okWide Tryd.prog W .any base t v := hval0
  have hW' := hW
  have hltW : ∀ x ∈ before, x.block < W.heap.size := fun x hx => by simpa using hW.lt x hx
  obtain ⟨p, q, hA0, hV, rfl, hfz, hnd⟩ := hW
  have hlt : ∀ x ∈ p, x.block < W.heap.size := fun x hx => hltW x (by simp [hx])
  clear hltW
  have hA : DataW.TrodAll enc Tryd.prog W 0 (fun _ => true) true Tryd.f4.params.toList args.toList ds p := hA0
  rw [Tryd.params4] at hA hval
  obtain ⟨v0, vs0, d0, ds0, p0, q0, hargs, rfl, rfl, h0, r0⟩ := trodAll_cons hA
  obtain ⟨v1, vs1, d1, ds1, p1, q1, rfl, rfl, rfl, h1, r1⟩ := trodAll_cons r0
  obtain ⟨rfl, rfl, rfl⟩ := trodAll_nil r1
  obtain rfl : args = #[v0, v1] := by cases args; simp_all
  obtain ⟨rfl, rfl⟩ := trodVars_none hV
  obtain ⟨A0, C0, cT0, cC0, ts0, fi0, cs0, rfl, HT0, wf0, wt0, wc0⟩ := val_table (hval 0 32 v0 rfl rfl) h0
  obtain ⟨a1, rfl, rfl, rfl, w1⟩ := Go.ChangeMaps.open_string Tryd.underlying9 (hval 1 9 v1 rfl rfl) h1
  clear hA0 hval0
  refine (walk A0 C0 cT0 cC0 ts0 fi0 cs0 a1 w1 W HT0 hL).mono fun e W' ⟨he, hg⟩ => ?_
  subst he
  exact ⟨_, rfl, law_post rfl hW' rfl rfl rfl rfl (by rw [Tryd.params4]; decide +kernel) hg⟩

/-- the statement -/
theorem proved : Rows.BackBooksSaid :=
  OpenClaim.holds_of_wide 4 Tryd.f4 rfl rfl rfl rfl rfl rfl rfl ⟨rfl, rfl, rfl, rfl, rfl⟩ rfl rfl rfl rfl rfl (by kernel_rfl) Tryd.func4 (by kernel_rfl)
    (of_decide_eq_true (by kernel_rfl)) (by unfold Func.isWrapper; first | (rw [if_pos (by decide +kernel)]; kernel_rfl) | (rw [if_neg (by decide +kernel)]; exact ⟨rfl, rfl⟩))
    (fun os started H enc _ => lifted os started H enc)
/-- the tied card -/
theorem card : Rows.BackBooksCardSaid :=
  Claim7.holds_tied_plain_at .later [] [.data, .data, .data] true (true, "c71649c597e1c479033fef8f3d6ecf93281434b16a692017f2104fe1e57d9f6c") false
    proved (fun _ h => by cases h) (by kernel_rfl) (fun _ h => by cases h) backBooks_row_tie rfl ⟨rfl, rfl⟩ (by kernel_rfl) rfl
    (fun f fn hf hfn => by
      obtain rfl : f = 4 := Option.some.inj ((show Tryd.prog.funcNamed "timeball/timeballlaw.BackBooks" = some 4 by kernel_rfl).symm.trans hf) |>.symm
      obtain rfl : fn = Tryd.f4 := (Option.some.inj (Tryd.func4.symm.trans hfn)).symm
      exact ⟨by kernel_rfl, fun j t ht => by
        have hm := Array.mem_of_getElem? ht
        have hall : (Tryd.f4.params.toList.all fun u => !Tryd.prog.wantsStandIn u) = true := by kernel_rfl
        exact (show Tryd.prog.wantsStandIn t = false by simpa using List.all_eq_true.1 hall t (by simpa using hm))⟩)
    (by kernel_rfl)
end Go.Proofs.YtgnodiegippkeaaDoor.backBooks
