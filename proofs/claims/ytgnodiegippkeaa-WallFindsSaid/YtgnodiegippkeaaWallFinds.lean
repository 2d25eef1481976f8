/- The law WallFinds holds at every input: Find returns what the reference returns. No condition. -/
import Derived.Test.YtgnodiegippkeaaLawKit
import Derived.Test.YtgnodiegippkeaaOpenSl
import Derived.Test.YtgnodiegippkeaaWfB
import Derived.Test.YtgnodiegippkeaaWfR
import Derived.Test.YtgnodiegippkeaaEqI
namespace Go.Proofs.Ytgnodiegippkeaa.wallFinds
open Go.ChangeShapes Go.WideShapes Go.ChangeAt Go.RowKit
set_option linter.unusedVariables false
attribute [local go_sem ↓] Go.wp_at_zero Go.wp_at_succ
set_option maxRecDepth 100000 in
set_option maxHeartbeats 4000000 in
theorem walk_bad (A C : Option Addr) (capT capC : Nat) (ts : List Ty) (first : Int) (cs : List Ch) (l : Int) (w : World) (H : TabAt w A C capT capC ts cs) (h0 : ¬ timedE ts first cs l = 0) :
    Calls Try.prog 3 #[.agg #[.slice A ts.length capT, .int .i64 first, .slice C cs.length capC], .int .i64 l] w fun e w' => e = .returned (.bool true) ∧ Below w.heap.size w w' := by
  have hb0 : Below w.heap.size w (w.alloc (.cells #[.slice A ts.length capT, .int .i64 first, .slice C cs.length capC] 25)) := (by repeat (first | exact Below.refl _ _ | assumption | apply Below.drew | apply below_drewN | (refine Below.alloc ?_ (by simp; try omega) _) | (refine Below.setCell ?_ (by simp; try omega) _)))
  have X1 := Lib.hid (Bx.new w #[.slice A ts.length capT, .int .i64 first, .slice C cs.length capC] 25)
  have h2 : (timedE ts first cs l != 0) = true := by rw [bne_iff_ne]; exact h0
  have h3 : (timedE ts first cs l == 0) = false := by rw [beq_eq_false_iff_ne]; exact h0
  have HC := Lib.hid (w_Find_bad A C capT capC ts first cs l _ (H.below hb0) h0)
  clear h0
  go_enter Try.func3, Try.ntmps3
  go_wp2_with fail
  refine HC.out.mono ?_
  rintro e w1 ⟨rfl, hb⟩
  have x1 := X1.out.step hb
  have hb1 := hb0.trans (hb.mono hb0.size)
  clear hb X1 hb0 HC
  go_wp2_with fail
  refine (w_Local_zero _).mono ?_
  rintro e w2 ⟨rfl, hb⟩
  have x2 := x1.step hb
  have hb2 := hb1.trans (hb.mono hb1.size)
  have hcs := x2.1
  clear hb x1 hb1
  go_wp2_with fail
  refine (l_timed A C capT capC ts first cs l _ (H.below hb2)).mono ?_
  rintro e w3 ⟨rfl, hb⟩
  have hb3 := hb2.trans (hb.mono hb2.size)
  clear hb x2 hb2 hcs
  go_wp2_with fail
  go_ret
  exact ⟨ret_bool (by simp), hb3⟩
set_option maxRecDepth 100000 in
set_option maxHeartbeats 4000000 in
theorem walk_ok (A C : Option Addr) (capT capC : Nat) (ts : List Ty) (first : Int) (cs : List Ch) (l : Int) (w : World) (H : TabAt w A C capT capC ts cs) (h0 : timedE ts first cs l = 0) :
    Calls Try.prog 3 #[.agg #[.slice A ts.length capT, .int .i64 first, .slice C cs.length capC], .int .i64 l] w fun e w' => e = .returned (.bool true) ∧ Below w.heap.size w w' := by
  have hb0 : Below w.heap.size w (w.alloc (.cells #[.slice A ts.length capT, .int .i64 first, .slice C cs.length capC] 25)) := (by repeat (first | exact Below.refl _ _ | assumption | apply Below.drew | apply below_drewN | (refine Below.alloc ?_ (by simp; try omega) _) | (refine Below.setCell ?_ (by simp; try omega) _)))
  have X1 := Lib.hid (Bx.new w #[.slice A ts.length capT, .int .i64 first, .slice C cs.length capC] 25)
  obtain ⟨h1, t1, t2⟩ := timed_parts h0
  have HK := Lib.hid (tabOk h1)
  have H0 := Lib.hid h0
  have HC := Lib.hid (w_Find_ok A C capT capC ts first cs l _ (H.below hb0) h0)
  clear h0 h1
  go_enter Try.func3, Try.ntmps3
  go_wp2_with fail
  refine HC.out.mono ?_
  rintro e w1 ⟨v, rfl, hO, hb⟩
  have x1 := X1.out.step hb
  have hb1 := hb0.trans (hb.mono hb0.size)
  have HO := Lib.hid hO
  clear hb X1 hb0 HC hO
  obtain ⟨L, hL⟩ : ∃ L, findL l (pcAll ts first cs) = L := ⟨_, rfl⟩
  rw [hL] at HO
  have HL := Lib.hid hL
  obtain ⟨A2, cap2, rfl, g1, g2, hA2⟩ := own_in HO.out
  have HA2 := Lib.hid hA2
  clear hL hA2
  go_wp2_with fail
  refine (w_Local_zero _).mono ?_
  rintro e w2 ⟨rfl, hb⟩
  have x2 := x1.step hb
  have hb2 := hb1.trans (hb.mono hb1.size)
  have HA3 := Lib.hid ((HA2.out.below hb).more hb.size)
  have hcs := x2.1
  clear hb x1 hb1 HA2
  go_wp2_with fail
  refine (l_timed A C capT capC ts first cs l _ (H.below hb2)).mono ?_
  rintro e w3 ⟨rfl, hb⟩
  have x3 := x2.step hb
  have hb3 := hb2.trans (hb.mono hb2.size)
  have HA4 := Lib.hid ((HA3.out.below hb).more hb.size)
  clear hb x2 hb2 hcs HA3
  have hcs := x3.1
  rw [H0.out]
  go_wp2_with fail
  refine (r_Find A C capT capC ts first cs l _ (H.below hb3) HK.out t1 t2).mono ?_
  rintro e w4 ⟨v4, rfl, hO4, hb⟩
  rw [HL.out] at hO4
  obtain ⟨A5, cap5, rfl, g3, g4, hA5⟩ := own_in hO4
  have HA6 := Lib.hid ((HA4.out.below hb).more hb.size)
  have HA5 := Lib.hid hA5
  have hb4 := hb3.trans (hb.mono hb3.size)
  clear hb hO4 hA5 hcs x3 hb3 HA4
  go_wp2_with fail
  refine (r_EqInt A2 A5 cap2 cap5 L L _ HA6.out HA5.out g1 g3 g2 g4).mono ?_
  rintro e w5 ⟨rfl, nq, rfl⟩
  go_wp2_with fail
  go_ret
  exact ⟨ret_bool (by simp), below_drewN hb4 nq⟩
theorem walk (A C : Option Addr) (capT capC : Nat) (ts : List Ty) (first : Int) (cs : List Ch) (l : Int) (w : World) (H : TabAt w A C capT capC ts cs) :
    Calls Try.prog 3 #[.agg #[.slice A ts.length capT, .int .i64 first, .slice C cs.length capC], .int .i64 l] w fun e w' => e = .returned (.bool true) ∧ Below w.heap.size w w' := by
  by_cases h0 : timedE ts first cs l = 0
  · exact walk_ok A C capT capC ts first cs l w H h0
  · exact walk_bad A C capT capC ts first cs l w H h0

set_option maxRecDepth 100000 in
theorem lifted (os : Os) (started : os.Started) (H : Type) (enc : TypeId × Value → H) :
    ReturnsInHanded {} Try.checked os 3 .any (Rows.wallFindsSpec.pre6 enc Try.prog Try.f3 Rows.wallFindsRow.domain false) (Rows.wallFindsSpec.post enc Try.prog Try.f3 false true false false) := by
  refine returnsInHanded_of_change (C := Try.checked) own started (by kernel_rfl) Try.func3
    (ChangeSpec.witness6 (enc := enc) (C := Try.checked) false ⟨#[], #[.agg #[.slice none 0 0, .int .i64 0, .slice none 0 0], .int .i64 0], []⟩ 8 (by kernel_rfl) (by kernel_rfl) (by kernel_rfl) (by kernel_rfl)) ?_
  intro W base args ds gs before hval0 hW hcnd _
  have hval : ∀ (j : Nat) t v, Try.f3.params[j]? = some t → args[j]? = some v → Value.okWide Try.prog W .any base t v := hval0
  have hW' := hW
  have hltW : ∀ x ∈ before, x.block < W.heap.size := fun x hx => by simpa using hW.lt x hx
  obtain ⟨p, q, hA0, hV, rfl, hfz, hnd⟩ := hW
  have hlt : ∀ x ∈ p, x.block < W.heap.size := fun x hx => hltW x (by simp [hx])
  clear hltW
  have hA : DataW.TrodAll enc Try.prog W 0 (fun _ => true) true Try.f3.params.toList args.toList ds p := hA0
  rw [Try.params3] at hA hval
  obtain ⟨v0, vs0, d0, ds0, p0, q0, hargs, rfl, rfl, h0, r0⟩ := trodAll_cons hA
  obtain ⟨v1, vs1, d1, ds1, p1, q1, rfl, rfl, rfl, h1, r1⟩ := trodAll_cons r0
  obtain ⟨rfl, rfl, rfl⟩ := trodAll_nil r1
  obtain rfl : args = #[v0, v1] := by cases args; simp_all
  obtain ⟨rfl, rfl⟩ := trodVars_none hV
  obtain ⟨A0, C0, cT0, cC0, ts0, fi0, cs0, rfl, HT0, wf0, wt0, wc0⟩ := val_table (hval 0 25 v0 rfl rfl) h0
  obtain ⟨a1, rfl, rfl, rfl, w1⟩ := open_int Try.underlying3 (hval 1 3 v1 rfl rfl) h1
  clear hA0 hval0
  refine (walk A0 C0 cT0 cC0 ts0 fi0 cs0 a1 W HT0).mono fun e W' ⟨he, hg⟩ => ?_
  subst he
  exact ⟨_, rfl, law_post rfl hW' rfl rfl rfl rfl (by rw [Try.params3]; decide +kernel) hg⟩

/-- the statement -/
theorem proved : Rows.WallFindsSaid :=
  OpenClaim.holds_of_wide 3 Try.f3 rfl rfl rfl rfl rfl rfl rfl ⟨rfl, rfl, rfl, rfl, rfl⟩ rfl rfl rfl rfl rfl (by kernel_rfl) Try.func3 (by kernel_rfl)
    (of_decide_eq_true (by kernel_rfl)) (by unfold Func.isWrapper; first | (rw [if_pos (by decide +kernel)]; kernel_rfl) | (rw [if_neg (by decide +kernel)]; exact ⟨rfl, rfl⟩))
    (fun os started H enc _ => lifted os started H enc)
end Go.Proofs.Ytgnodiegippkeaa.wallFinds
