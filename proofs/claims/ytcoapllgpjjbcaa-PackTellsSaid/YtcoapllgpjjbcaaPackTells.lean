/- The law PackTells holds at every input: Pack returns what the reference returns. No condition. -/
import Derived.Test.YtcoapllgpjjbcaaLawKit
import Derived.Test.YtcoapllgpjjbcaaOpenSl
import Derived.Test.YtcoapllgpjjbcaaPkC
import Derived.Test.YtcoapllgpjjbcaaPkR
import Derived.Test.YtcoapllgpjjbcaaEqY
namespace Go.Proofs.Ytcoapllgpjjbcaa.packTells
open Go.ChangeShapes Go.WideShapes Go.ChangeAt Go.RowKit
set_option linter.unusedVariables false
attribute [local go_sem ↓] Go.wp_at_zero Go.wp_at_succ
theorem sl_none (w : World) (B : Nat) : SlAt w B 1 none (([] : List Int).map byCells) := by
  intro hn
  simp at hn
set_option maxRecDepth 100000 in
set_option maxHeartbeats 4000000 in
theorem walk_bad (A C : Option Addr) (capT capC : Nat) (ts : List Ty) (first : Int) (cs : List Ch) (w : World) (H : TabAt w A C capT capC ts cs) (h0 : ¬ tabE ts first cs = 0) :
    Calls Try.prog 3 #[.agg #[.slice A ts.length capT, .int .i64 first, .slice C cs.length capC]] w fun e w' => e = .returned (.bool true) ∧ Below w.heap.size w w' := by
  have hb0 : Below w.heap.size w (w.alloc (.cells #[.slice A ts.length capT, .int .i64 first, .slice C cs.length capC] 25)) := (by repeat (first | exact Below.refl _ _ | assumption | apply Below.drew | apply below_drewN | (refine Below.alloc ?_ (by simp; try omega) _) | (refine Below.setCell ?_ (by simp; try omega) _)))
  have X1 := Lib.hid (Bx.new w #[.slice A ts.length capT, .int .i64 first, .slice C cs.length capC] 25)
  have HC := Lib.hid (p_Pack_bad A C capT capC ts first cs _ (H.below hb0) h0)
  go_enter Try.func3, Try.ntmps3
  go_wp2_with fail
  refine HC.out.mono ?_
  rintro e w1 ⟨rfl, hb⟩
  have x1 := X1.out.step hb
  have hb1 := hb0.trans (hb.mono hb0.size)
  have hcs := x1.1
  clear hb X1 hb0 HC
  go_wp2_with fail
  refine (r_Pack_bad A C capT capC ts first cs _ (H.below hb1) h0).mono ?_
  rintro e w2 ⟨rfl, hb⟩
  have hb2 := hb1.trans (hb.mono hb1.size)
  clear hb x1 hb1 hcs
  go_wp2_with fail
  refine (p_Parse_nil _).mono ?_
  rintro e w3 ⟨rfl, hb⟩
  have hb3 := hb2.trans (hb.mono hb2.size)
  clear hb hb2
  go_wp2_with fail
  refine (r_EqByte none none 0 0 [] [] _ (sl_none _ _) (sl_none _ _) (by simp) (by simp) (by unfold maxLen; omega) (by unfold maxLen; omega)).mono ?_
  rintro e w4 ⟨rfl, nq, rfl⟩
  go_wp2_with fail
  go_ret
  exact ⟨ret_bool (by simp), below_drewN (hb3.alloc hb3.size _) nq⟩
set_option maxRecDepth 100000 in
set_option maxHeartbeats 4000000 in
theorem walk_ok (A C : Option Addr) (capT capC : Nat) (ts : List Ty) (first : Int) (cs : List Ch) (w : World) (H : TabAt w A C capT capC ts cs) (h0 : tabE ts first cs = 0) :
    Calls Try.prog 3 #[.agg #[.slice A ts.length capT, .int .i64 first, .slice C cs.length capC]] w fun e w' => e = .returned (.bool true) ∧ Below w.heap.size w w' := by
  have hb0 : Below w.heap.size w (w.alloc (.cells #[.slice A ts.length capT, .int .i64 first, .slice C cs.length capC] 25)) := (by repeat (first | exact Below.refl _ _ | assumption | apply Below.drew | apply below_drewN | (refine Below.alloc ?_ (by simp; try omega) _) | (refine Below.setCell ?_ (by simp; try omega) _)))
  have X1 := Lib.hid (Bx.new w #[.slice A ts.length capT, .int .i64 first, .slice C cs.length capC] 25)
  have HK := Lib.hid (tabOk h0)
  have H0 := Lib.hid h0
  have HC := Lib.hid (p_Pack_ok A C capT capC ts first cs _ (H.below hb0) h0 HK.out)
  clear h0
  go_enter Try.func3, Try.ntmps3
  go_wp2_with fail
  refine HC.out.mono ?_
  rintro e w1 ⟨v, rfl, hO, hb⟩
  have x1 := X1.out.step hb
  have hb1 := hb0.trans (hb.mono hb0.size)
  have HO := Lib.hid hO
  have hcs := x1.1
  clear hb X1 hb0 HC hO
  obtain ⟨A2, cap2, rfl, g1, g2, hA2⟩ := own_inB HO.out
  have HA2 := Lib.hid hA2
  clear hA2
  go_wp2_with fail
  refine (r_Pack_ok A C capT capC ts first cs _ (H.below hb1) H0.out HK.out).mono ?_
  rintro e w2 ⟨v4, rfl, hO4, hb⟩
  obtain ⟨A5, cap5, rfl, g3, g4, hA5⟩ := own_inB hO4
  have HA3 := Lib.hid ((HA2.out.below hb).more hb.size)
  have HA5 := Lib.hid hA5
  have hb2 := hb1.trans (hb.mono hb1.size)
  clear hb x1 hb1 hcs HA2 hO4 hA5
  obtain ⟨L, hL⟩ : ∃ L, pkL ts first cs = L := ⟨_, rfl⟩
  rw [hL] at HA3 HA5 g1 g3
  go_wp2_with fail
  refine (p_Parse_nil _).mono ?_
  rintro e w3 ⟨rfl, hb⟩
  have HA4 := Lib.hid ((HA3.out.below hb).more hb.size)
  have HA6 := Lib.hid ((HA5.out.below hb).more hb.size)
  have hb3 := hb2.trans (hb.mono hb2.size)
  clear hb hb2 HA3 HA5
  have hba : Below w3.heap.size w3 (w3.alloc (.cells #[.slice none 0 0, .int .i64 0, .slice none 0 0] 25)) := (Below.refl _ _).alloc (Nat.le_refl _) _
  go_wp2_with fail
  refine (r_EqByte A2 A5 cap2 cap5 L L _ ((HA4.out.below hba).more hba.size) ((HA6.out.below hba).more hba.size) g1 g3 g2 g4).mono ?_
  rintro e w5 ⟨rfl, nq, rfl⟩
  go_wp2_with fail
  go_ret
  exact ⟨ret_bool (by simp), below_drewN (hb3.trans (hba.mono hb3.size)) nq⟩
theorem walk (A C : Option Addr) (capT capC : Nat) (ts : List Ty) (first : Int) (cs : List Ch) (w : World) (H : TabAt w A C capT capC ts cs) :
    Calls Try.prog 3 #[.agg #[.slice A ts.length capT, .int .i64 first, .slice C cs.length capC]] w fun e w' => e = .returned (.bool true) ∧ Below w.heap.size w w' := by
  by_cases h0 : tabE ts first cs = 0
  · exact walk_ok A C capT capC ts first cs w H h0
  · exact walk_bad A C capT capC ts first cs w H h0

set_option maxRecDepth 100000 in
theorem lifted (os : Os) (started : os.Started) (H : Type) (enc : TypeId × Value → H) :
    ReturnsInHanded {} Try.checked os 3 .any (Rows.packTellsSpec.pre6 enc Try.prog Try.f3 Rows.packTellsRow.domain false) (Rows.packTellsSpec.post enc Try.prog Try.f3 false true false false) := by
  refine returnsInHanded_of_change (C := Try.checked) own started (by kernel_rfl) Try.func3
    (ChangeSpec.witness6 (enc := enc) (C := Try.checked) false ⟨#[], #[.agg #[.slice none 0 0, .int .i64 0, .slice none 0 0]], []⟩ 8 (by kernel_rfl) (by kernel_rfl) (by kernel_rfl) (by kernel_rfl)) ?_
  intro W base args ds gs before hval0 hW hcnd _
  have hval : ∀ (j : Nat) t v, Try.f3.params[j]? = some t → args[j]? = some v → Value.okWide Try.prog W .any base t v := hval0
  have hW' := hW
  have hltW : ∀ x ∈ before, x.block < W.heap.size := fun x hx => by simpa using hW.lt x hx
  obtain ⟨p, q, hA0, hV, rfl, hfz, hnd⟩ := hW
  have hlt : ∀ x ∈ p, x.block < W.heap.size := fun x hx => hltW x (by simp [hx])
  clear hltW
  have hA : DataW.TrodAll enc Try.prog W 0 (fun _ => true) true Try.f3.params.toList args.toList ds p := hA0
  rw [Try.params3] at hA hval
  obtain ⟨v0, vs0, d0, ds0, p0, q0, hargs, rfl, rfl, h0, r0⟩ := trodAll_cons hA
  obtain ⟨rfl, rfl, rfl⟩ := trodAll_nil r0
  obtain rfl : args = #[v0] := by cases args; simp_all
  obtain ⟨rfl, rfl⟩ := trodVars_none hV
  obtain ⟨A0, C0, cT0, cC0, ts0, fi0, cs0, rfl, HT0, wf0, wt0, wc0⟩ := val_table (hval 0 25 v0 rfl rfl) h0
  clear hA0 hval0
  refine (walk A0 C0 cT0 cC0 ts0 fi0 cs0 W HT0).mono fun e W' ⟨he, hg⟩ => ?_
  subst he
  exact ⟨_, rfl, law_post rfl hW' rfl rfl rfl rfl (by rw [Try.params3]; decide +kernel) hg⟩

/-- the statement -/
theorem proved : Rows.PackTellsSaid :=
  OpenClaim.holds_of_wide 3 Try.f3 rfl rfl rfl rfl rfl rfl rfl ⟨rfl, rfl, rfl, rfl, rfl⟩ rfl rfl rfl rfl rfl (by kernel_rfl) Try.func3 (by kernel_rfl)
    (of_decide_eq_true (by kernel_rfl)) (by unfold Func.isWrapper; first | (rw [if_pos (by decide +kernel)]; kernel_rfl) | (rw [if_neg (by decide +kernel)]; exact ⟨rfl, rfl⟩))
    (fun os started H enc _ => lifted os started H enc)
end Go.Proofs.Ytcoapllgpjjbcaa.packTells
