/- The law RiteStates holds at every input: At returns what the reference returns. No condition. -/
import Derived.Test.YtelgehpfjpbboaaDoorLawKit
import Derived.Test.YtelgehpfjpbboaaDoorRaA
import Derived.Test.YtelgehpfjpbboaaDoorTeP
import Derived.Test.YtelgehpfjpbboaaDoorRaR
import Derived.Test.YtelgehpfjpbboaaDoorRaR2
import Derived.Test.YtelgehpfjpbboaaDoorRaR3
import Derived.Test.YtelgehpfjpbboaaDoorCards
import Derived.Test.YtelgehpfjpbboaaDoorTie
import Derived.LaidMore
import Derived.OpenShut
import Derived.Stop.Joined
import Derived.Stop.LaidErr
import Derived.Lib.LaidTab
import Derived.SevenTiedAt
import Derived.Lay
import Derived.MakeChecks
namespace Go.Proofs.YtelgehpfjpbboaaDoor.riteStates
open Go.ChangeShapes Go.WideShapes Go.ChangeAt Go.RowKit
set_option linter.unusedVariables false
theorem tab_of {W : World} {r : List (String × DataW Unit)} (h : laidMet Tryd.prog (("internal/strconv.uint64pow10", Rows.laid_internal_strconv_uint64pow10) :: r) W) : Lib.TabIs Tryd.prog W "internal/strconv.uint64pow10" .u64 Lib.pow10Tab :=
  Lib.tabIs_of_head (k := .u64) (zs := Lib.pow10Tab) (g := 2) (n := 20) (by kernel_rfl) (by kernel_rfl) Tryd.underlying116 Tryd.underlying96 (by kernel_rfl) (by kernel_rfl) h
theorem i_At (name also : ByteArray) (off aoff m1 k1 d1 a1 m2 k2 d2 a2 t : Int) (hn : name.size ≤ maxLen) (hl : also.size ≤ maxLen) (h1 : -9223372036854775808 ≤ t) (h2 : t ≤ 9223372036854775807) (w : World) (HI : ∀ W y, Below w.heap.size w W → y < 10000 → ItoaIn W y) :
    Calls Tryd.prog 15 #[.agg #[.string name, .int .i64 off, .string also, .int .i64 aoff, .int .i64 m1, .int .i64 k1, .int .i64 d1, .int .i64 a1, .int .i64 m2, .int .i64 k2, .int .i64 d2, .int .i64 a2], .int .i64 t] w
      fun e w' => e = .returned (.tuple #[.agg #[.int .i64 (raV name also off aoff m1 k1 d1 a1 m2 k2 d2 a2 t).1, .bool (raV name also off aoff m1 k1 d1 a1 m2 k2 d2 a2 t).2.1, .string (raV name also off aoff m1 k1 d1 a1 m2 k2 d2 a2 t).2.2], .int .i64 (raE name also off aoff m1 k1 d1 a1 m2 k2 d2 a2 t)]) ∧ Below w.heap.size w w' := by
  by_cases h : posE name off also aoff m1 k1 d1 a1 m2 k2 d2 a2 = 0
  · cases h3 : dateOk (t / 86400) with
    | false =>
      obtain ⟨e, v⟩ := ra_out (t := t) h (by rw [h3]; rintro ⟨q, _⟩; cases q)
      rw [e, v]; exact i_At_t1 name also off aoff m1 k1 d1 a1 m2 k2 d2 a2 t hn hl w h1 h2 HI h h3
    | true =>
      have ho : -64800 ≤ off ∧ off ≤ 64800 := ⟨(pos_name h).2.2.2.1, (pos_name h).2.2.2.2⟩
      cases h4 : dateOk ((t + off) / 86400) with
      | false =>
        obtain ⟨e, v⟩ := ra_out (t := t) h (by rw [h4]; rintro ⟨_, q⟩; cases q)
        rw [e, v]; exact i_At_t2 name also off aoff m1 k1 d1 a1 m2 k2 d2 a2 t hn hl w HI ho h h3 h4
      | true =>
        by_cases h5 : also.size = 0
        · obtain ⟨e, v⟩ := ra_none (t := t) h ⟨h3, h4⟩ h5
          rw [e, v]; exact i_At_none name also off aoff m1 k1 d1 a1 m2 k2 d2 a2 t hn hl w HI ho h h3 h4 h5
        · obtain ⟨_, h7, r1, r2⟩ := pos_facts h h5
          cases h6 : raIs t (raS m1 k1 d1 a1 off (dYear ((t + off) / 86400))) (raS m2 k2 d2 a2 aoff (dYear ((t + off) / 86400))) with
          | true =>
            obtain ⟨e, v⟩ := ra_yes (t := t) h ⟨h3, h4⟩ h5 h6
            rw [e, v]; exact i_At_yes name also off aoff m1 k1 d1 a1 m2 k2 d2 a2 t hn hl w HI ho h h3 h4 (by omega) h6 h7 r1 r2
          | false =>
            obtain ⟨e, v⟩ := ra_not (t := t) h ⟨h3, h4⟩ h5 h6
            rw [e, v]; exact i_At_not name also off aoff m1 k1 d1 a1 m2 k2 d2 a2 t hn hl w HI ho h h3 h4 (by omega) h6 h7 r1 r2
  · obtain ⟨e, v⟩ := ra_bad (t := t) h
    rw [e, v]; exact i_At_bad name also off aoff m1 k1 d1 a1 m2 k2 d2 a2 t hn hl h w
theorem r_RiteAt (name also : ByteArray) (off aoff m1 k1 d1 a1 m2 k2 d2 a2 t : Int) (hn : name.size ≤ maxLen) (hl : also.size ≤ maxLen) (w : World) :
    Calls Tryd.prog 16 #[.agg #[.string name, .int .i64 off, .string also, .int .i64 aoff, .int .i64 m1, .int .i64 k1, .int .i64 d1, .int .i64 a1, .int .i64 m2, .int .i64 k2, .int .i64 d2, .int .i64 a2], .int .i64 t] w
      fun e w' => e = .returned (.tuple #[.agg #[.int .i64 (raV name also off aoff m1 k1 d1 a1 m2 k2 d2 a2 t).1, .bool (raV name also off aoff m1 k1 d1 a1 m2 k2 d2 a2 t).2.1, .string (raV name also off aoff m1 k1 d1 a1 m2 k2 d2 a2 t).2.2], .int .i64 (raE name also off aoff m1 k1 d1 a1 m2 k2 d2 a2 t)]) ∧ Below w.heap.size w w' := by
  by_cases h : posE name off also aoff m1 k1 d1 a1 m2 k2 d2 a2 = 0
  · have i1 := isTime_div t
    have i2 := isTime_div (t + off)
    cases h3 : isTimeB t with
    | false =>
      obtain ⟨e, v⟩ := ra_out (t := t) h (by rw [← i1, h3]; rintro ⟨q, _⟩; cases q)
      rw [e, v]; exact r_At_t1 name also off aoff m1 k1 d1 a1 m2 k2 d2 a2 t hn hl w h h3
    | true =>
      have ho : -64800 ≤ off ∧ off ≤ 64800 := ⟨(pos_name h).2.2.2.1, (pos_name h).2.2.2.2⟩
      cases h4 : isTimeB (t + off) with
      | false =>
        obtain ⟨e, v⟩ := ra_out (t := t) h (by rw [← i2, h4]; rintro ⟨_, q⟩; cases q)
        rw [e, v]; exact r_At_t2 name also off aoff m1 k1 d1 a1 m2 k2 d2 a2 t hn hl w ho h h3 h4
      | true =>
        have h34 : dateOk (t / 86400) = true ∧ dateOk ((t + off) / 86400) = true := ⟨by rw [← i1]; exact h3, by rw [← i2]; exact h4⟩
        by_cases h5 : also.size = 0
        · obtain ⟨e, v⟩ := ra_none (t := t) h h34 h5
          rw [e, v]; exact r_At_none name also off aoff m1 k1 d1 a1 m2 k2 d2 a2 t hn hl w ho h h3 h4 h5
        · obtain ⟨_, h7, r1, r2⟩ := pos_facts h h5
          cases h6 : raIs t (raS m1 k1 d1 a1 off (dYear ((t + off) / 86400))) (raS m2 k2 d2 a2 aoff (dYear ((t + off) / 86400))) with
          | true =>
            obtain ⟨e, v⟩ := ra_yes (t := t) h h34 h5 h6
            rw [e, v]; exact r_At_yes name also off aoff m1 k1 d1 a1 m2 k2 d2 a2 t hn hl w ho h h3 h4 (by omega) h6 h7 r1 r2
          | false =>
            obtain ⟨e, v⟩ := ra_not (t := t) h h34 h5 h6
            rw [e, v]; exact r_At_not name also off aoff m1 k1 d1 a1 m2 k2 d2 a2 t hn hl w ho h h3 h4 (by omega) h6 h7 r1 r2
  · obtain ⟨e, v⟩ := ra_bad (t := t) h
    rw [e, v]; exact r_At_bad name also off aoff m1 k1 d1 a1 m2 k2 d2 a2 t hn hl h w
theorem wf_bd {n : Int} (h : (Lit.int .i64 n).wf = true) : -9223372036854775808 ≤ n ∧ n ≤ 9223372036854775807 := by
  simp [Lit.wf, IntKind.min, IntKind.max, IntKind.signed, IntKind.bits] at h; omega
set_option maxRecDepth 100000 in
set_option maxHeartbeats 8000000 in
theorem walk (name : ByteArray) (off : Int) (also : ByteArray) (aoff m1 k1 d1 a1 m2 k2 d2 a2 : Int) (hn : name.size ≤ maxLen) (hl : also.size ≤ maxLen) (t : Int) (hw : (Lit.int .i64 t).wf = true) (w : World) (hL : laidMet Tryd.prog Rows.riteStatesRow.laid w) :
    Calls Tryd.prog 6 #[.agg #[.string name, .int .i64 off, .string also, .int .i64 aoff, .int .i64 m1, .int .i64 k1, .int .i64 d1, .int .i64 a1, .int .i64 m2, .int .i64 k2, .int .i64 d2, .int .i64 a2], .int .i64 t] w fun e w' => e = .returned (.bool true) ∧ Below w.heap.size w w' := by
  have z0 : posE ⟨#[]⟩ 0 ⟨#[]⟩ 0 0 0 0 0 0 0 0 0 = 3 := by decide
  have HI := Lib.hid (fun W y (hb : Below w.heap.size w W) (hy : y < 10000) => (itoa_tab w y (by omega) (tab_of (laidMet.tail (laidMet.tail hL)))).on hb)
  have HB := Lib.hid (wf_bd hw)
  obtain ⟨V, hV⟩ : ∃ V : RaT, raV name also off aoff m1 k1 d1 a1 m2 k2 d2 a2 t = V := ⟨_, rfl⟩
  obtain ⟨E, hE⟩ : ∃ E : Int, raE name also off aoff m1 k1 d1 a1 m2 k2 d2 a2 t = E := ⟨_, rfl⟩
  have HA := Lib.hid (fun W (hi : ∀ W' y, Below W.heap.size W W' → y < 10000 → ItoaIn W' y) => i_At name also off aoff m1 k1 d1 a1 m2 k2 d2 a2 t hn hl HB.out.1 HB.out.2 W hi)
  have HR := Lib.hid (fun W => r_RiteAt name also off aoff m1 k1 d1 a1 m2 k2 d2 a2 t hn hl W)
  rw [hV, hE] at HA HR
  clear hV hE hL hw
  have hb0 : Below w.heap.size w (w.alloc (.cells #[.string name, .int .i64 off, .string also, .int .i64 aoff, .int .i64 m1, .int .i64 k1, .int .i64 d1, .int .i64 a1, .int .i64 m2, .int .i64 k2, .int .i64 d2, .int .i64 a2] 25)) := (Below.refl _ _).alloc (Nat.le_refl _) _
  have HB0 := Lib.hid hb0
  clear hb0
  go_enter Tryd.func6, Tryd.ntmps6
  go_wp2_with fail
  refine (HA.out _ (fun W' y hb hy => HI.out W' y (HB0.out.trans (hb.mono HB0.out.size)) hy)).mono ?_
  rintro e w1 ⟨rfl, hb⟩
  obtain ⟨hcs, hz, hb'⟩ := boxc hb
  obtain ⟨v1, v2, v3⟩ := V
  clear hb
  go_wp2_with fail
  refine (HR.out _).mono ?_
  rintro e w2 ⟨rfl, hb2⟩
  have y1 := (Bx.new w1 #[.int .i64 v1, .bool v2, .string v3] 36).step hb2
  have hs := y1.1
  have hs2 := y1.2.2
  have hb3 := hb'.trans ((((Below.refl _ _).alloc (Nat.le_refl _) _).trans (hb2.mono (by rw [size_alloc]; omega))).mono (Nat.le_of_lt hz))
  clear hcs hb2 y1
  go_wp2_with (first | (go_at_call 9; refine (i_Check _ _ _ _ _ _ _ _ _ _ _ _ (by unfold maxLen; decide) (by unfold maxLen; decide) _).mono ?_; rintro e w5 ⟨rfl, hb5⟩))
  go_ret
  have hb6 := hb3.alloc (o := .cells #[.int .i64 v1, .bool v2, .string v3] 36) hb3.size
  exact ⟨rfl, hb6.trans (hb5.mono hb6.size)⟩

theorem door_met (os : Os) (args : Array Value) : laidMetH Tryd.prog Rows.riteStatesRow.laid ((World.laidAll Tryd.prog os Rows.riteStatesRow.laid).forCall (fun _ _ => 0) ⟨#[], args, []⟩).memory := by
  rw [MakeChecks.laidMetH_plain _ _ _ (by kernel_rfl)]
  exact laidMet_laidAll args (by kernel_rfl) (by kernel_rfl)
set_option maxRecDepth 100000 in
theorem lifted (os : Os) (started : os.Started) (H : Type) (enc : TypeId × Value → H) :
    ReturnsInHanded {} Tryd.checked os 6 .any (fun w args => (Rows.riteStatesSpec.pre enc Tryd.prog Tryd.f6 [] false w args ∧ laidMetH Tryd.prog Rows.riteStatesRow.laid w) ∧ sizedMet enc Tryd.prog Tryd.f6 (OpenSpec.ofChange Rows.riteStatesSpec) false w args)
      (Rows.riteStatesSpec.post enc Tryd.prog Tryd.f6 false true false false) := by
  refine returnsInHanded_of_change_and (C := Tryd.checked) (X := fun w _ => laidMetH Tryd.prog Rows.riteStatesRow.laid w) (fun _ _ _ hh h => h.of_heap hh) own started (by kernel_rfl) Tryd.func6
    (ChangeSpec.witness_shaped (enc := enc) (C := Tryd.checked) (os := os) (X := fun w _ => laidMetH Tryd.prog Rows.riteStatesRow.laid w) false (World.laidAll Tryd.prog os Rows.riteStatesRow.laid) #[.agg #[.string ⟨#[]⟩, .int .i64 0, .string ⟨#[]⟩, .int .i64 0, .int .i64 0, .int .i64 0, .int .i64 0, .int .i64 0, .int .i64 0, .int .i64 0, .int .i64 0, .int .i64 0], .int .i64 0] 8 (World.laidAll_os _ _ _) (World.shaped_of_ZipB (by kernel_rfl) (by kernel_rfl)) (by kernel_rfl) (by kernel_rfl) (by kernel_rfl) (door_met os _)) ?_
  intro W base args ds gs before hval0 hW _ _ hL _
  rw [MakeChecks.laidMetH_plain _ _ _ (by kernel_rfl)] at hL
  have hval : ∀ (j : Nat) t v, Tryd.f6.params[j]? = some t → args[j]? = some v → Value.okWide Tryd.prog W .any base t v := hval0
  have hW' := hW
  have hltW : ∀ x ∈ before, x.block < W.heap.size := fun x hx => by simpa using hW.lt x hx
  obtain ⟨p, q, hA0, hV, rfl, hfz, hnd⟩ := hW
  have hlt : ∀ x ∈ p, x.block < W.heap.size := fun x hx => hltW x (by simp [hx])
  clear hltW
  have hA : DataW.TrodAll enc Tryd.prog W 0 (fun _ => true) true Tryd.f6.params.toList args.toList ds p := hA0
  rw [Tryd.params6] at hA hval
  obtain ⟨v0, vs0, d0, ds0, p0, q0, hargs, rfl, rfl, h0, r0⟩ := trodAll_cons hA
  obtain ⟨v1, vs1, d1, ds1, p1, q1, rfl, rfl, rfl, h1, r1⟩ := trodAll_cons r0
  obtain ⟨rfl, rfl, rfl⟩ := trodAll_nil r1
  obtain rfl : args = #[v0, v1] := by cases args; simp_all
  obtain ⟨rfl, rfl⟩ := trodVars_none hV
  obtain ⟨name0, off0, also0, aoff0, smo0, swe0, swd0, sa0, emo0, ewe0, ewd0, ea0, rfl, wi_off0, wi_aoff0, wi_smo0, wi_swe0, wi_swd0, wi_sa0, wi_emo0, wi_ewe0, wi_ewd0, wi_ea0, ws_name0, ws_also0⟩ := val_posix (hval 0 25 v0 rfl rfl) h0
  obtain ⟨a1, rfl, rfl, rfl, w1⟩ := open_int Tryd.underlying3 (hval 1 3 v1 rfl rfl) h1
  clear hA0 hval0
  refine (walk name0 off0 also0 aoff0 smo0 swe0 swd0 sa0 emo0 ewe0 ewd0 ea0 ws_name0 ws_also0 a1 w1 W hL).mono fun e W' ⟨he, hg⟩ => ?_
  subst he
  exact ⟨_, rfl, law_post rfl hW' rfl rfl rfl rfl (by rw [Tryd.params6]; decide +kernel) hg⟩

/-- the statement -/
theorem proved : Rows.RiteStatesSaid :=
  OpenClaim.holds_of_wide 6 Tryd.f6 rfl rfl rfl rfl rfl rfl rfl ⟨rfl, rfl, rfl, rfl, rfl⟩ rfl rfl rfl rfl rfl (by kernel_rfl) Tryd.func6 (by kernel_rfl)
    (of_decide_eq_true (by kernel_rfl)) (by unfold Func.isWrapper; first | (rw [if_pos (by decide +kernel)]; kernel_rfl) | (rw [if_neg (by decide +kernel)]; exact ⟨rfl, rfl⟩))
    (fun os started H enc _ => lifted os started H enc)
/-- the tied card -/
theorem card : Rows.RiteStatesCardSaid :=
  Claim7.holds_tied_plain_at .later [] [.data, .data, .data] true (true, "2c13cc3c0be856691f46dd526740abe7bf97395facf5606fab4c993c118b1122") true
    proved (fun _ h => by cases h) (by kernel_rfl) (fun _ h => by cases h) riteStates_row_tie rfl ⟨rfl, rfl⟩ (by kernel_rfl) rfl
    (fun f fn hf hfn => by
      obtain rfl : f = 6 := Option.some.inj ((show Tryd.prog.funcNamed "timeball/timeballlaw.RiteStates" = some 6 by kernel_rfl).symm.trans hf) |>.symm
      obtain rfl : fn = Tryd.f6 := (Option.some.inj (Tryd.func6.symm.trans hfn)).symm
      exact ⟨by kernel_rfl, fun j t ht => by
        have hm := Array.mem_of_getElem? ht
        have hall : (Tryd.f6.params.toList.all fun u => !Tryd.prog.wantsStandIn u) = true := by kernel_rfl
        exact (show Tryd.prog.wantsStandIn t = false by simpa using List.all_eq_true.1 hall t (by simpa using hm))⟩)
    (by kernel_rfl)
end Go.Proofs.YtelgehpfjpbboaaDoor.riteStates
