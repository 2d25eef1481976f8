/- The law TableTells holds at every input: At returns what the reference returns. No condition. -/
import Derived.Test.YtiiilpfapggihaaLawKit
import Derived.Test.YtiiilpfapggihaaOpenSl
import Derived.Test.YtiiilpfapggihaaTabOfR
import Derived.Test.YtiiilpfapggihaaTabR
import Derived.Test.YtiiilpfapggihaaKeep2
import Derived.Deep.RegionHeld3
import Derived.Deep.DrawnRows
namespace Go.Proofs.Ytiiilpfapggihaa.tableTells
open Go.ChangeShapes Go.WideShapes Go.ChangeAt Go.RowKit
set_option linter.unusedVariables false
attribute [local go_sem ↓] Go.wp_at_zero Go.wp_at_succ

set_option maxRecDepth 100000 in
set_option maxHeartbeats 4000000 in
theorem walk (A C : Option Addr) (capT capC : Nat) (ts : List Ty) (first : Int) (cs : List Ch) (time : Int) (w : World) (H : TabAt w A C capT capC ts cs) :
    Calls Try.prog 11 #[.agg #[.slice A ts.length capT, .int .i64 first, .slice C cs.length capC], .int .i64 time] w fun e w' => e = .returned (.bool true) ∧ Below w.heap.size w w' := by
  have x1 := Bx.new w #[.slice A ts.length capT, .int .i64 first, .slice C cs.length capC] 45
  have hb0 : Below w.heap.size w (w.alloc (.cells #[.slice A ts.length capT, .int .i64 first, .slice C cs.length capC] 45)) := (by repeat (first | exact Below.refl _ _ | assumption | apply Below.drew | apply below_drewN | (refine Below.alloc ?_ (by simp; try omega) _) | (refine Below.setCell ?_ (by simp; try omega) _)))
  have X1 := Lib.hid x1
  clear x1
  go_enter Try.func11, Try.ntmps11
  go_wp2_with fail
  refine (t_At A C capT capC ts first cs time _ (H.below hb0)).mono ?_
  rintro e w1 ⟨rfl, hb⟩
  have x1 := X1.out.step hb
  have hb1 := hb0.trans (hb.mono hb0.size)
  clear hb X1 hb0
  obtain ⟨av, hav⟩ : ∃ av : Ty, atV ts first cs time = av := ⟨_, rfl⟩
  rw [hav]
  go_wp2_with fail
  refine (t_At_zero _).mono ?_
  rintro e w2 ⟨rfl, hb⟩
  have x2 := (x1.alloc _).step hb
  have y2 := (Bx.new w1 #[.int .i64 av.1, .bool av.2.1, .string av.2.2] 54).step hb
  have hb2 := (hb1.alloc hb1.size _).trans (hb.mono (hb1.alloc hb1.size _).size)
  have hcs := x2.1
  have hsz := x2.2.2
  have hya := y2.1
  have hys := y2.2.2
  clear hb x1 hb1
  go_wp2_with fail
  refine (r_TableCheck A C capT capC ts first cs _ (H.below (hb2.alloc hb2.size _))).mono ?_
  rintro e w3 ⟨rfl, hb⟩
  have x3 := (x2.alloc _).step hb
  have y3 := (y2.alloc _).step hb
  have hb3 := (hb2.alloc hb2.size _).trans (hb.mono (hb2.alloc hb2.size _).size)
  clear hb x2 y2 hb2 hcs hsz hya hys
  have hcs := x3.1
  have hya := y3.1
  have hsz := x3.2.2
  have hys := y3.2.2
  by_cases h0 : tabE ts first cs = 0
  · have hK := tabOk h0
    have he : av = tabOf ts first cs time := by rw [← hav, atV, if_pos h0]
    have HR := Lib.hid (show ∀ W, Below w.heap.size w W → Calls Try.prog 37 #[.agg #[.slice A ts.length capT, .int .i64 first, .slice C cs.length capC], .int .i64 time] W
      fun e w' => e = .returned (.agg #[.int .i64 av.1, .bool av.2.1, .string av.2.2]) ∧ Below W.heap.size W w' from by
        rw [he]; exact fun W hB => r_TableOf A C capT capC ts first cs time W (H.below hB) hK)
    rw [h0]
    clear hK he hav h0 H x3 y3
    go_wp2_with fail
    go_region_held3 (fun w' => (∀ i, w'.cell? ⟨w.heap.size, i, none⟩ = (#[.slice A ts.length capT, .int .i64 first, .slice C cs.length capC] : Array Value)[i]?) ∧ (∀ i, w'.cell? ⟨w1.heap.size, i, none⟩ = (#[.int .i64 av.1, .bool av.2.1, .string av.2.2] : Array Value)[i]?) ∧ w.heap.size < w'.heap.size ∧ w1.heap.size < w'.heap.size ∧ Below w.heap.size w w')
      (first | exact ⟨hcs, hya, hsz, hys, hb3.drew⟩ | assumption | exact keepS2 (by assumption) (by assumption))
      (first | (go_at_call 37; refine (HR.out _ ?_).mono ?_; (exact hb3.drew); rintro e w5 ⟨rfl, hb5⟩))
    all_goals
      rename_i hX
      obtain ⟨_, _, _, _, hX⟩ := hX
      go_wp2
      go_ret
      exact ⟨rfl, hX⟩
  · have he : av = tyZero := by rw [← hav, atV, if_neg h0]
    subst he
    have h0' : (tabE ts first cs != 0) = true := by rw [bne_iff_ne]; exact h0
    clear h0 hav
    simp only [show tyZero.1 = 0 from rfl, show tyZero.2.1 = false from rfl, show tyZero.2.2 = ⟨#[]⟩ from rfl] at hya ⊢
    go_wp2_with fail
    go_ret
    exact ⟨rfl, (by repeat (first | exact Below.refl _ _ | assumption | apply Below.drew | apply below_drewN | (refine Below.alloc ?_ (by simp; try omega) _) | (refine Below.setCell ?_ (by simp; try omega) _)))⟩

set_option maxRecDepth 100000 in
theorem lifted (os : Os) (started : os.Started) (H : Type) (enc : TypeId × Value → H) :
    ReturnsInHanded {} Try.checked os 11 .any (Rows.tableTellsSpec.pre6 enc Try.prog Try.f11 Rows.tableTellsRow.domain false) (Rows.tableTellsSpec.post enc Try.prog Try.f11 false true false false) := by
  refine returnsInHanded_of_change (C := Try.checked) own started (by kernel_rfl) Try.func11
    (ChangeSpec.witness6 (enc := enc) (C := Try.checked) false ⟨#[], #[.agg #[.slice none 0 0, .int .i64 0, .slice none 0 0], .int .i64 0], []⟩ 8 (by kernel_rfl) (by kernel_rfl) (by kernel_rfl) (by kernel_rfl)) ?_
  intro W base args ds gs before hval0 hW hcnd _
  have hval : ∀ (j : Nat) t v, Try.f11.params[j]? = some t → args[j]? = some v → Value.okWide Try.prog W .any base t v := hval0
  have hW' := hW
  have hltW : ∀ x ∈ before, x.block < W.heap.size := fun x hx => by simpa using hW.lt x hx
  obtain ⟨p, q, hA0, hV, rfl, hfz, hnd⟩ := hW
  have hlt : ∀ x ∈ p, x.block < W.heap.size := fun x hx => hltW x (by simp [hx])
  clear hltW
  have hA : DataW.TrodAll enc Try.prog W 0 (fun _ => true) true Try.f11.params.toList args.toList ds p := hA0
  rw [Try.params11] at hA hval
  obtain ⟨v0, vs0, d0, ds0, p0, q0, hargs, rfl, rfl, h0, r0⟩ := trodAll_cons hA
  obtain ⟨v1, vs1, d1, ds1, p1, q1, rfl, rfl, rfl, h1, r1⟩ := trodAll_cons r0
  obtain ⟨rfl, rfl, rfl⟩ := trodAll_nil r1
  obtain rfl : args = #[v0, v1] := by cases args; simp_all
  obtain ⟨rfl, rfl⟩ := trodVars_none hV
  obtain ⟨A0, C0, cT0, cC0, ts0, fi0, cs0, rfl, HT0, wf0, wt0, wc0⟩ := val_table (hval 0 45 v0 rfl rfl) h0
  obtain ⟨a1, rfl, rfl, rfl, w1⟩ := open_int Try.underlying3 (hval 1 3 v1 rfl rfl) h1
  clear hA0 hval0
  refine (walk A0 C0 cT0 cC0 ts0 fi0 cs0 a1 W HT0).mono fun e W' ⟨he, hg⟩ => ?_
  subst he
  exact ⟨_, rfl, law_post rfl hW' rfl rfl rfl rfl (by rw [Try.params11]; decide +kernel) hg⟩

/-- the statement -/
theorem proved : Rows.TableTellsSaid :=
  OpenClaim.holds_of_wide 11 Try.f11 rfl rfl rfl rfl rfl rfl rfl ⟨rfl, rfl, rfl, rfl, rfl⟩ rfl rfl rfl rfl rfl (by kernel_rfl) Try.func11 (by kernel_rfl)
    (of_decide_eq_true (by kernel_rfl)) (by unfold Func.isWrapper; first | (rw [if_pos (by decide +kernel)]; kernel_rfl) | (rw [if_neg (by decide +kernel)]; exact ⟨rfl, rfl⟩))
    (fun os started H enc _ => lifted os started H enc)
end Go.Proofs.Ytiiilpfapggihaa.tableTells
