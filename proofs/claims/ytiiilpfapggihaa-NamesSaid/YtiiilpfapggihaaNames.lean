/- The law Names holds: the constants have the documented values. No condition. -/
import Derived.Test.YtiiilpfapggihaaLawKit
import Derived.Test.YtiiilpfapggihaaEqI
import Derived.Test.YtiiilpfapggihaaBoxes
namespace Go.Proofs.Ytiiilpfapggihaa.names
open Go.ChangeShapes Go.WideShapes Go.ChangeAt Go.RowKit
set_option linter.unusedVariables false

def limits : List Int := [1600, 2399, 1900, 2100, 64800, 10800, 604800, 1099511627776, 40, 20, 700, 20, 20, 12, 8, 60000, 1000, 250, 8, 40, 60, 200, 1, 2, 3, 4, 0, 1, 2]
theorem lit {w W : World} {B : Nat} {xs : List Int} {cs : Array Value} (hcs : cs = (xs.map (fun n => Value.int .i64 n)).toArray) (hc : ∀ i, W.cell? ⟨B, i, none⟩ = cs[i]?) (hB : B < W.heap.size) : SlAt W W.heap.size 1 (some ⟨B, 0, none⟩) (xs.map inCells) := by
  intro _
  refine ⟨B, 0, rfl, hB, fun i hi j hj => ?_⟩
  have hi' : i < xs.length := by simpa using hi
  obtain rfl : j = 0 := by omega
  rw [show 0 + i * 1 + 0 = i by omega, hc, hcs]
  simp [List.getD, hi', inCells]
theorem eq_calls (w1 w2 : Nat) (W : World) (h1 : ∀ i, W.cell? ⟨w1, i, none⟩ = ((limits.map (fun n => Value.int .i64 n)).toArray)[i]?) (h2 : ∀ i, W.cell? ⟨w2, i, none⟩ = ((limits.map (fun n => Value.int .i64 n)).toArray)[i]?) (b1 : w1 < W.heap.size) (b2 : w2 < W.heap.size) :
    Calls Try.prog 15 #[.slice (some ⟨w1, 0, none⟩) 29 29, .slice (some ⟨w2, 0, none⟩) 29 29] W fun e w' => e = .returned (.bool true) ∧ Below W.heap.size W w' := by
  have := r_EqInt (some ⟨w1, 0, none⟩) (some ⟨w2, 0, none⟩) 29 29 limits limits W (lit (w := W) rfl h1 b1) (lit (w := W) rfl h2 b2) (by decide) (by decide) (by unfold maxLen; decide) (by unfold maxLen; decide)
  refine this.mono ?_
  rintro e w' ⟨rfl, n, rfl⟩
  exact ⟨by simp, below_drewN (Below.refl _ _) n⟩

theorem errs (k : Nat) (hk : k < 9) (n : Nat) (W : World) (h : ∀ i, W.cell? ⟨n, i, none⟩ = (#[Value.int .i64 0, .int .i64 1, .int .i64 2, .int .i64 3, .int .i64 4, .int .i64 5, .int .i64 6, .int .i64 7, .int .i64 8] : Array Value)[i]?) : W.cell? ⟨n, k, none⟩ = some (.int .i64 (k : Int)) := by
  rw [h]
  have : k = 0 ∨ k = 1 ∨ k = 2 ∨ k = 3 ∨ k = 4 ∨ k = 5 ∨ k = 6 ∨ k = 7 ∨ k = 8 := by omega
  rcases this with h | h | h | h | h | h | h | h | h <;> subst h <;> rfl

set_option maxRecDepth 100000 in
set_option maxHeartbeats 4000000 in
theorem walk (w : World) :
    Calls Try.prog 3 #[] w fun e w' => e = .returned (.bool true) ∧ Below w.heap.size w w' := by
  go_enter Try.func3, Try.ntmps3
  go_wp2_with fail
  obtain ⟨W, hW⟩ : ∃ W, w.alloc (.cells #[.int .i64 0, .int .i64 1, .int .i64 2, .int .i64 3, .int .i64 4, .int .i64 5, .int .i64 6, .int .i64 7, .int .i64 8] 22) = W := ⟨_, rfl⟩
  have hb : Below w.heap.size w W := by rw [← hW]; exact (by repeat (first | exact Below.refl _ _ | assumption | apply Below.drew | apply below_drewN | (refine Below.alloc ?_ (by simp; try omega) _) | (refine Below.setCell ?_ (by simp; try omega) _)))
  have hc := fun k hk => errs k hk w.heap.size W (fun i => by rw [← hW]; exact cell_new _ _ _ _ _ rfl)
  have HC := Lib.hid hc
  rw [hW]
  clear hc hW
  go_loop [5] (fun i => ∃ k : Nat, k ≤ 9 ∧ i = .int .i64 k) (fun i => 9 - (intOf i).toNat)
  case atStart => exact ⟨0, by omega, rfl⟩
  case round =>
    obtain ⟨k, hk, rfl⟩ := hrel
    by_cases hlt : k < 9
    · have c0 := HC.out k hlt
      go_wp2_with fail
      exact ⟨⟨k + 1, by omega, by go_num⟩, by simp [intOf]; omega⟩
    · obtain rfl : k = 9 := by omega
      go_wp2_with fail
      obtain ⟨q1, q2, _, q5, hb0⟩ := boxes2 W (limits.map (fun n => Value.int .i64 n)).toArray (limits.map (fun n => Value.int .i64 n)).toArray 3 3
      have hE := eq_calls W.heap.size (W.heap.size + 1) _ q1 q2 (by rw [q5]; omega) (by rw [q5]; omega)
      refine (show Calls Try.prog _ _ _ _ from hE).mono ?_
      rintro e w2 ⟨rfl, hb2⟩
      have hb3 := hb.trans ((hb0.trans (hb2.mono hb0.size)).mono hb.size)
      clear q1 q2 q5 hb0 hb2 hE
      go_wp2_with fail
      go_ret
      exact ⟨rfl, hb3⟩

set_option maxRecDepth 100000 in
theorem lifted (os : Os) (started : os.Started) (H : Type) (enc : TypeId × Value → H) :
    ReturnsInHanded {} Try.checked os 3 .any (Rows.namesSpec.pre6 enc Try.prog Try.f3 Rows.namesRow.domain false) (Rows.namesSpec.post enc Try.prog Try.f3 false true false false) := by
  refine returnsInHanded_of_change (C := Try.checked) own started (by kernel_rfl) Try.func3
    (ChangeSpec.witness6 (enc := enc) (C := Try.checked) false ⟨#[], #[], []⟩ 8 (by kernel_rfl) (by kernel_rfl) (by kernel_rfl) (by kernel_rfl)) ?_
  intro W base args ds gs before hval0 hW hcnd _
  have hval : ∀ (j : Nat) t v, Try.f3.params[j]? = some t → args[j]? = some v → Value.okWide Try.prog W .any base t v := hval0
  have hW' := hW
  have hltW : ∀ x ∈ before, x.block < W.heap.size := fun x hx => by simpa using hW.lt x hx
  obtain ⟨p, q, hA0, hV, rfl, hfz, hnd⟩ := hW
  have hlt : ∀ x ∈ p, x.block < W.heap.size := fun x hx => hltW x (by simp [hx])
  clear hltW
  have hA : DataW.TrodAll enc Try.prog W 0 (fun _ => true) true Try.f3.params.toList args.toList ds p := hA0
  rw [Try.params3] at hA hval
  obtain ⟨hargs, rfl, rfl⟩ := trodAll_nil hA
  obtain rfl : args = #[] := by cases args; simp_all
  obtain ⟨rfl, rfl⟩ := trodVars_none hV
  clear hA0 hval0
  refine (walk  W ).mono fun e W' ⟨he, hg⟩ => ?_
  subst he
  exact ⟨_, rfl, law_post rfl hW' rfl rfl rfl rfl (by rw [Try.params3]; decide +kernel) hg⟩

/-- the statement -/
theorem proved : Rows.NamesSaid :=
  OpenClaim.holds_of_wide 3 Try.f3 rfl rfl rfl rfl rfl rfl rfl ⟨rfl, rfl, rfl, rfl, rfl⟩ rfl rfl rfl rfl rfl (by kernel_rfl) Try.func3 (by kernel_rfl)
    (of_decide_eq_true (by kernel_rfl)) (by unfold Func.isWrapper; first | (rw [if_pos (by decide +kernel)]; kernel_rfl) | (rw [if_neg (by decide +kernel)]; exact ⟨rfl, rfl⟩))
    (fun os started H enc _ => lifted os started H enc)
end Go.Proofs.Ytiiilpfapggihaa.names
