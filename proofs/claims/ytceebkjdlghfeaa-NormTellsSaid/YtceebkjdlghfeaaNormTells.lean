/- The law NormTells holds at every input: Norm returns what the reference returns. No condition. -/
import Derived.Test.YtceebkjdlghfeaaLawKit
import Derived.Test.YtceebkjdlghfeaaOpenSl
import Derived.Test.YtceebkjdlghfeaaNmF
import Derived.Test.YtceebkjdlghfeaaNmI
import Derived.Test.YtceebkjdlghfeaaTabR
import Derived.Test.YtceebkjdlghfeaaTabEq
import Derived.Test.YtceebkjdlghfeaaKeep2
import Derived.Deep.RegionHeld3
import Derived.Deep.DrawnRows
namespace Go.Proofs.Ytceebkjdlghfeaa.normTells
open Go.ChangeShapes Go.WideShapes Go.ChangeAt Go.RowKit
set_option linter.unusedVariables false
attribute [local go_sem ↓] Go.wp_at_zero Go.wp_at_succ
theorem norm_zero (w : World) : Calls Try.prog 5 #[.agg #[.slice none 0 0, .int .i64 0, .slice none 0 0]] w (NBad 5 w) :=
  n_Norm_bad none none 0 0 [] 0 [] w (TabAt.zero w) (by decide)
theorem eq_zero (w : World) : Calls Try.prog 7 #[.agg #[.slice none 0 0, .int .i64 0, .slice none 0 0], .agg #[.slice none 0 0, .int .i64 0, .slice none 0 0]] w fun e w' => e = .returned (.bool true) ∧ Below w.heap.size w w' :=
  r_TableEq none none none none 0 0 0 0 [] 0 [] w (TabAt.zero w) (TabAt.zero w)
set_option maxRecDepth 100000 in
set_option maxHeartbeats 4000000 in
theorem walk_bad (A C : Option Addr) (capT capC : Nat) (ts : List Ty) (first : Int) (cs : List Ch) (w : World) (H : TabAt w A C capT capC ts cs) (h0 : ¬ tabE ts first cs = 0) :
    Calls Try.prog 3 #[.agg #[.slice A ts.length capT, .int .i64 first, .slice C cs.length capC]] w fun e w' => e = .returned (.bool true) ∧ Below w.heap.size w w' := by
  have hb0 : Below w.heap.size w (w.alloc (.cells #[.slice A ts.length capT, .int .i64 first, .slice C cs.length capC] 25)) := (by repeat (first | exact Below.refl _ _ | assumption | apply Below.drew | apply below_drewN | (refine Below.alloc ?_ (by simp; try omega) _) | (refine Below.setCell ?_ (by simp; try omega) _)))
  have X1 := Lib.hid (Bx.new w #[.slice A ts.length capT, .int .i64 first, .slice C cs.length capC] 25)
  have h2 : (tabE ts first cs != 0) = true := by rw [bne_iff_ne]; exact h0
  have h3 : (tabE ts first cs == 0) = false := by rw [beq_eq_false_iff_ne]; exact h0
  have H0 := Lib.hid h0
  clear h0
  go_enter Try.func3, Try.ntmps3
  go_wp2_with fail
  refine (n_Norm_bad A C capT capC ts first cs _ (H.below hb0) H0.out).mono ?_
  rintro e w1 ⟨rfl, hb⟩
  have x1 := X1.out.step hb
  have hb1 := hb0.trans (hb.mono hb0.size)
  have hb1' := hb1.alloc hb1.size (.cells #[.slice none 0 0, .int .i64 0, .slice none 0 0] 25)
  have xa := Bx.new w1 #[.slice none 0 0, .int .i64 0, .slice none 0 0] 25
  have x1' := x1.alloc (.cells #[.slice none 0 0, .int .i64 0, .slice none 0 0] 25)
  clear hb X1 hb0 x1
  go_wp2_with fail
  refine (norm_zero _).mono ?_
  rintro e w2 ⟨rfl, hb⟩
  have x2 := (x1'.step hb).alloc (.cells #[.slice none 0 0, .int .i64 0, .slice none 0 0] 25)
  have xa2 := (xa.step hb).alloc (.cells #[.slice none 0 0, .int .i64 0, .slice none 0 0] 25)
  have hb2 := (hb1'.trans (hb.mono hb1'.size))
  have hb2' := hb2.alloc hb2.size (.cells #[.slice none 0 0, .int .i64 0, .slice none 0 0] 25)
  have hcs := x2.1
  clear hb hb1' x1' hb1 xa
  go_wp2_with fail
  refine (r_TableCheck A C capT capC ts first cs _ (H.below hb2')).mono ?_
  rintro e w3 ⟨rfl, hb⟩
  have xa3 := (xa2.step hb).1
  have hb3 := hb2'.trans (hb.mono hb2'.size)
  clear hb hb2 hb2' hcs x2 xa2
  go_wp2_with fail
  refine (eq_zero _).mono ?_
  rintro e w4 ⟨rfl, hb⟩
  go_wp2_with fail
  go_ret
  exact ⟨ret_bool (by simp), hb3.trans (hb.mono hb3.size)⟩
set_option maxRecDepth 100000 in
set_option maxHeartbeats 4000000 in
theorem walk_ok (A C : Option Addr) (capT capC : Nat) (ts : List Ty) (first : Int) (cs : List Ch) (w : World) (H : TabAt w A C capT capC ts cs) (h0 : tabE ts first cs = 0) :
    Calls Try.prog 3 #[.agg #[.slice A ts.length capT, .int .i64 first, .slice C cs.length capC]] w fun e w' => e = .returned (.bool true) ∧ Below w.heap.size w w' := by
  have hb0 : Below w.heap.size w (w.alloc (.cells #[.slice A ts.length capT, .int .i64 first, .slice C cs.length capC] 25)) := (by repeat (first | exact Below.refl _ _ | assumption | apply Below.drew | apply below_drewN | (refine Below.alloc ?_ (by simp; try omega) _) | (refine Below.setCell ?_ (by simp; try omega) _)))
  have X1 := Lib.hid (Bx.new w #[.slice A ts.length capT, .int .i64 first, .slice C cs.length capC] 25)
  have HK := Lib.hid (tabOk h0)
  have H0 := Lib.hid h0
  clear h0
  go_enter Try.func3, Try.ntmps3
  go_wp2_with fail
  refine (n_Norm_ok A C capT capC ts first cs _ (H.below hb0) H0.out).mono ?_
  rintro e w1 ⟨A1, C1, cT1, cC1, rfl, HT, _, _, hb⟩
  obtain ⟨s, hs⟩ : ∃ s, normSt ts first cs = s := ⟨_, rfl⟩
  rw [hs] at HT ⊢
  have HS := Lib.hid hs
  clear hs
  have x1 := X1.out.step hb
  have hb1 := hb0.trans (hb.mono hb0.size)
  have hb1' := hb1.alloc hb1.size (.cells #[.slice A1 s.ts.length cT1, .int .i64 0, .slice C1 s.cs.length cC1] 25)
  have xa := Bx.new w1 #[.slice A1 s.ts.length cT1, .int .i64 0, .slice C1 s.cs.length cC1] 25
  have x1' := x1.alloc (.cells #[.slice A1 s.ts.length cT1, .int .i64 0, .slice C1 s.cs.length cC1] 25)
  have HT1 := Lib.hid (HT.below ((Below.refl _ _).alloc (Nat.le_refl _) (.cells #[.slice A1 s.ts.length cT1, .int .i64 0, .slice C1 s.cs.length cC1] 25)))
  clear hb X1 hb0 x1 HT
  go_wp2_with fail
  refine (norm_zero _).mono ?_
  rintro e w2 ⟨rfl, hb⟩
  have x2 := (x1'.step hb).alloc (.cells #[.slice none 0 0, .int .i64 0, .slice none 0 0] 25)
  have xa2 := (xa.step hb).alloc (.cells #[.slice none 0 0, .int .i64 0, .slice none 0 0] 25)
  have hb2 := (hb1'.trans (hb.mono hb1'.size))
  have hb2' := hb2.alloc hb2.size (.cells #[.slice none 0 0, .int .i64 0, .slice none 0 0] 25)
  have HT2 := Lib.hid ((HT1.out.below hb).below ((Below.refl _ _).alloc (Nat.le_refl _) (.cells #[.slice none 0 0, .int .i64 0, .slice none 0 0] 25)))
  have hcs := x2.1
  clear hb hb1' x1' hb1 xa HT1
  go_wp2_with fail
  refine (r_TableCheck A C capT capC ts first cs _ (H.below hb2')).mono ?_
  rintro e w3 ⟨rfl, hb⟩
  rw [H0.out]
  have hb3 := hb2'.trans (hb.mono hb2'.size)
  have xa3 := xa2.step hb
  have x3 := x2.step hb
  have HT3 := Lib.hid (HT2.out.below hb)
  have HH3 := Lib.hid (H.below hb3)
  clear hb hb2 hb2' hcs x2 xa2 HT2
  go_wp2_with fail
  have hS : (∀ i, w3.drew.cell? ⟨w1.heap.size, i, none⟩ = (#[.slice A1 s.ts.length cT1, .int .i64 0, .slice C1 s.cs.length cC1] : Array Value)[i]?) ∧ (∀ i, w3.drew.cell? ⟨w.heap.size, i, none⟩ = (#[.slice A ts.length capT, .int .i64 first, .slice C cs.length capC] : Array Value)[i]?) ∧ w1.heap.size < w3.drew.heap.size ∧ w.heap.size < w3.drew.heap.size ∧ Below w3.heap.size w3 w3.drew := ⟨xa3.1, x3.1, xa3.2.2, x3.2.2, (Below.refl _ _).drew⟩
  have HF1 := Lib.hid (fun (W : World) (hb : (∀ i, W.cell? ⟨w1.heap.size, i, none⟩ = (#[.slice A1 s.ts.length cT1, .int .i64 0, .slice C1 s.cs.length cC1] : Array Value)[i]?) ∧ (∀ i, W.cell? ⟨w.heap.size, i, none⟩ = (#[.slice A ts.length capT, .int .i64 first, .slice C cs.length capC] : Array Value)[i]?) ∧ w1.heap.size < W.heap.size ∧ w.heap.size < W.heap.size ∧ Below w3.heap.size w3 W) => HH3.out.below hb.2.2.2.2)
  have HF2 := Lib.hid (fun (W : World) (hb : (∀ i, W.cell? ⟨w1.heap.size, i, none⟩ = (#[.slice A1 s.ts.length cT1, .int .i64 0, .slice C1 s.cs.length cC1] : Array Value)[i]?) ∧ (∀ i, W.cell? ⟨w.heap.size, i, none⟩ = (#[.slice A ts.length capT, .int .i64 first, .slice C cs.length capC] : Array Value)[i]?) ∧ w1.heap.size < W.heap.size ∧ w.heap.size < W.heap.size ∧ Below w3.heap.size w3 W) => HT3.out.below hb.2.2.2.2)
  clear xa3 x3
  go_region_held3 (fun w' => (∀ i, w'.cell? ⟨w1.heap.size, i, none⟩ = (#[.slice A1 s.ts.length cT1, .int .i64 0, .slice C1 s.cs.length cC1] : Array Value)[i]?) ∧ (∀ i, w'.cell? ⟨w.heap.size, i, none⟩ = (#[.slice A ts.length capT, .int .i64 first, .slice C cs.length capC] : Array Value)[i]?) ∧ w1.heap.size < w'.heap.size ∧ w.heap.size < w'.heap.size ∧ Below w3.heap.size w3 w')
    (first | exact hS | assumption | exact keepS2 (by assumption) (by assumption))
    (first | (go_at_call 8; refine (r_Norm A C capT capC ts first cs _ (HF1.out _ (by assumption)) HK.out).mono ?_; rintro e w5 ⟨A5, C5, cT5, cC5, rfl, HT5, _, _, hb5⟩; rw [HS.out] at HT5; rw [HS.out]) | (go_at_call 7; refine (r_TableEq _ _ _ _ _ _ _ _ s.ts 0 s.cs _ (HF2.out _ (by assumption)) HT5).mono ?_; rintro e w6 ⟨rfl, hb6⟩))
  rename_i hX
  obtain ⟨_, _, _, _, hX⟩ := hX
  go_wp2_with fail
  go_ret
  exact ⟨ret_bool (by simp), hb3.trans (hX.mono hb3.size)⟩
theorem walk (A C : Option Addr) (capT capC : Nat) (ts : List Ty) (first : Int) (cs : List Ch) (w : World) (H : TabAt w A C capT capC ts cs) :
    Calls Try.prog 3 #[.agg #[.slice A ts.length capT, .int .i64 first, .slice C cs.length capC]] w fun e w' => e = .returned (.bool true) ∧ Below w.heap.size w w' := by
  by_cases h0 : tabE ts first cs = 0
  · exact walk_ok A C capT capC ts first cs w H h0
  · exact walk_bad A C capT capC ts first cs w H h0

set_option maxRecDepth 100000 in
theorem lifted (os : Os) (started : os.Started) (H : Type) (enc : TypeId × Value → H) :
    ReturnsInHanded {} Try.checked os 3 .any (Rows.normTellsSpec.pre6 enc Try.prog Try.f3 Rows.normTellsRow.domain false) (Rows.normTellsSpec.post enc Try.prog Try.f3 false true false false) := by
  refine returnsInHanded_of_change (C := Try.checked) own started (by kernel_rfl) Try.func3
    (ChangeSpec.witness6 (enc := enc) (C := Try.checked) false ⟨#[], #[.agg #[.slice none 0 0, .int .i64 0, .slice none 0 0]], []⟩ 8 (by kernel_rfl) (by kernel_rfl) (by kernel_rfl) (by kernel_rfl)) ?_
  intro W base args ds gs before hval0 hW hcnd _
  have hval : ∀ (j : Nat) t v, Try.f3.params[j]? = some t → args[j]? = some v → Value.okWide Try.prog W .any base t v := hval0
  have hW' := hW
  have hltW : ∀ x ∈ before, x.block < W.heap.size := fun x hx => by simpa using hW.lt x hx
  obtain ⟨p, q, hA0, hV, rfl, hfz, hnd⟩ := hW
  have hlt : ∀ x ∈ p, x.block < W.heap.size := fun x hx => hltW x (by simp [hx])
  clear hltW
  have hA : DataW.TrodAll enc Try.prog W 0 (fun _ => true) true Try.f3.params.toList args.toList ds p := hA0
  rw [Try.params3] at hA hval
  obtain ⟨v0, vs0, d0, ds0, p0, q0, hargs, rfl, rfl, h0, r0⟩ := trodAll_cons hA
  obtain ⟨rfl, rfl, rfl⟩ := trodAll_nil r0
  obtain rfl : args = #[v0] := by cases args; simp_all
  obtain ⟨rfl, rfl⟩ := trodVars_none hV
  obtain ⟨A0, C0, cT0, cC0, ts0, fi0, cs0, rfl, HT0, wf0, wt0, wc0⟩ := val_table (hval 0 25 v0 rfl rfl) h0
  clear hA0 hval0
  refine (walk A0 C0 cT0 cC0 ts0 fi0 cs0 W HT0).mono fun e W' ⟨he, hg⟩ => ?_
  subst he
  exact ⟨_, rfl, law_post rfl hW' rfl rfl rfl rfl (by rw [Try.params3]; decide +kernel) hg⟩

/-- the statement -/
theorem proved : Rows.NormTellsSaid :=
  OpenClaim.holds_of_wide 3 Try.f3 rfl rfl rfl rfl rfl rfl rfl ⟨rfl, rfl, rfl, rfl, rfl⟩ rfl rfl rfl rfl rfl (by kernel_rfl) Try.func3 (by kernel_rfl)
    (of_decide_eq_true (by kernel_rfl)) (by unfold Func.isWrapper; first | (rw [if_pos (by decide +kernel)]; kernel_rfl) | (rw [if_neg (by decide +kernel)]; exact ⟨rfl, rfl⟩))
    (fun os started H enc _ => lifted os started H enc)
end Go.Proofs.Ytceebkjdlghfeaa.normTells
