/- Walk of clock.ReadSpan at the empty text. -/
import Derived.Test.YtelgehpfjpbboaaDoorSpA
import Derived.Test.YtelgehpfjpbboaaDoorBoxes
namespace Go.Proofs.YtelgehpfjpbboaaDoor
open Go.RowKit
set_option linter.unusedVariables false
set_option maxRecDepth 100000 in
set_option maxHeartbeats 1000000 in
theorem genSplit0 (w : World) :
    Calls Tryd.prog 44 #[.string ⟨#[]⟩, .string ⟨#[58]⟩, .int .i64 0, .int .i64 (-1)] w fun e w' => ∃ N c, e = .returned (.slice (some ⟨N, 0, none⟩) 1 c) ∧ w'.cell? ⟨N, 0, none⟩ = some (.string ⟨#[]⟩) ∧ N < w'.heap.size ∧ Below w.heap.size w w' := by
  have hm : ∀ w : World, (Instr.makeSlice 50 (.int .i64 1) (.int .i64 1)).run Tryd.prog w = .ok (.slice (some ⟨w.heap.size, 0, none⟩) 1 1) (w.alloc (.cells #[.string ⟨#[]⟩] 9)) := by intro w; kernel_rfl
  have hc : Lib.countByte (⟨#[]⟩ : ByteArray).data.toList 58 = 0 := rfl
  go_enter Tryd.func44, Tryd.ntmps44
  go_wp2_with fail
  refine (Tryd.strings_Count_one ⟨#[]⟩ 58 _).mono ?_
  rintro e w' ⟨rfl, rfl⟩
  rw [hc]
  go_wp2_with fail
  clear hm
  go_loop [0, 10] (fun s i => s = .string ⟨#[]⟩ ∧ i = .int .i64 0) (fun _ _ => 0)
  case atStart => exact ⟨rfl, rfl⟩
  case round =>
    obtain ⟨rfl, rfl⟩ := hrel
    go_wp2_with fail
    go_ret
    exact ⟨_, ⟨_, rfl⟩, cell_new _ _ _ _ _ rfl, by rw [size_alloc]; omega, (Below.refl _ _).alloc (Nat.le_refl _) _⟩
theorem split0 (w : World) :
    Calls Tryd.prog 29 #[.string ⟨#[]⟩, .string ⟨#[58]⟩] w fun e w' => ∃ N c, e = .returned (.slice (some ⟨N, 0, none⟩) 1 c) ∧ w'.cell? ⟨N, 0, none⟩ = some (.string ⟨#[]⟩) ∧ N < w'.heap.size ∧ Below w.heap.size w w' := by
  go_enter Tryd.func29, Tryd.ntmps29
  go_wp2_with fail
  refine (genSplit0 _).mono ?_
  rintro e w1 ⟨N, c, rfl, h1, h2, h3⟩
  go_wp2_with fail
  go_ret
  exact ⟨N, c, rfl, h1, h2, h3⟩
theorem sp_zero : spV 0 = ⟨#[48, 58, 48, 48]⟩ ∧ spE 0 = 0 := by
  have h := spV_pos (m := 0) (by omega)
  refine ⟨?_, h.2⟩
  rw [show (0 : Int) = ((0 : Nat) : Int) from rfl, h.1, span_0 rfl]
  show digB 0 ++ ⟨#[58]⟩ ++ twoB 0 = _
  rw [digB, dec_small (by omega)]; rfl
set_option maxRecDepth 100000 in
set_option maxHeartbeats 1000000 in
theorem k_ReadSpan0 (te : TypeId) (pe : Value) (w : World) (hv : w.cell? ⟨0, 0, none⟩ = some (.iface te pe)) :
    Calls Tryd.prog 12 #[.string ⟨#[]⟩] w fun e w' => e = .returned (.tuple #[.int .i64 0, .int .i64 3]) ∧ Below w.heap.size w w' := by
  have hB : Below w.heap.size w w := Below.refl _ _
  have HV := Lib.hid hv
  have m1 : min (0 : Int) 3 = 0 := rfl
  have m2 : min (0 : Int) 1000 = 0 := rfl
  clear hv
  go_enter Tryd.func12, Tryd.ntmps12
  go_wp2_with fail
  refine (Tryd.strings_CutPrefix ⟨#[]⟩ ⟨#[45]⟩ _).mono ?_
  rintro e w' ⟨rfl, rfl⟩
  rw [show (⟨(Lib.trimPrefix (⟨#[]⟩ : ByteArray).data.toList (⟨#[45]⟩ : ByteArray).data.toList).toArray⟩ : ByteArray) = ⟨#[]⟩ from rfl, show Lib.hasPrefix (⟨#[]⟩ : ByteArray).data.toList (⟨#[45]⟩ : ByteArray).data.toList = false from rfl]
  go_wp2_with fail
  refine (split0 _).mono ?_
  rintro e w1 ⟨N, c, rfl, h1, h2, hb⟩
  replace hB := hB.trans (hb.mono hB.size)
  clear hb
  go_wp2_with fail
  go_loopw [6, 21] (fun n i wr => ∃ k : Nat, k ≤ 1 ∧ i = .int .i64 k ∧ n = .int .i64 0 ∧ Below w'.heap.size w' wr ∧ wr.cell? ⟨N, 0, none⟩ = some (.string ⟨#[]⟩) ∧ N < wr.heap.size) (fun _ i _ => 1 - (intOf i).toNat)
  case atStart => exact ⟨0, by omega, rfl, rfl, hB, h1, h2⟩
  case round =>
    clear h1 h2 hB
    obtain ⟨k, hk, rfl, rfl, hB, h1, h2⟩ := hrel
    by_cases hk0 : k = 0
    · subst hk0
      have hv1 : wr.cell? ⟨0, 0, none⟩ = some (.iface te pe) := (hB.cell (show (⟨0, 0, none⟩ : Addr).block < w'.heap.size from Lib.lt_of_cell HV.out)).trans HV.out
      have HA := Lib.hid (Tryd.strconv_Atoi_err ⟨#[]⟩ (by decide) rfl (.iface te pe) wr hv1 (Or.inr ⟨te, pe, rfl⟩))
      clear hv1
      go_wp2_with fail
      refine HA.out.mono ?_
      rintro e w2 ⟨M, rfl, _, _, hb⟩
      have h3 := (hb.cell (show (⟨N, 0, none⟩ : Addr).block < wr.heap.size from h2)).trans h1
      have h4 := Nat.lt_of_lt_of_le h2 hb.size
      replace hB := hB.trans (hb.mono hB.size)
      clear hb h1 h2
      go_wp2_with fail
      exact ⟨⟨1, by omega, by go_num, rfl, hB.trans ((Below.refl _ _).alloc (Nat.le_refl _) _ |>.mono hB.size), (cell_old _ _ _ h4).trans h3, by rw [size_alloc]; omega⟩, by simp [intOf]⟩
    · obtain rfl : k = 1 := by omega
      obtain ⟨z1, z2⟩ := sp_zero
      have HK := Lib.hid (k_Span 0 wr (itoa_small wr 0 (by omega)))
      rw [z1, z2] at HK
      go_wp2_with fail
      refine HK.out.mono ?_
      rintro e w2 ⟨rfl, hb⟩
      replace hB := hB.trans (hb.mono hB.size)
      clear hb
      go_wp2_with fail
      go_ret2
      exact ⟨rfl, hB⟩
end Go.Proofs.YtelgehpfjpbboaaDoor
