/- Walk of the reference's Eq at texts that are alike. -/
import Derived.Test.YthkiohemolndeaaGreatDoorNaP
import Derived.Test.YthkiohemolndeaaGreatDoorBase
import Derived.Deep.Onto
namespace Go.Proofs.YthkiohemolndeaaGreatDoor
open Go.RowKit
set_option linter.unusedVariables false
attribute [local go_sem ↓] Go.wp_at_zero Go.wp_at_succ
def tB (x : Bs) : List Value := [.string ⟨x.toArray⟩]
theorem tB_flat : ∀ L : List Bs, (L.map tB).flatten = L.map encStr
  | [] => rfl
  | x :: l => by rw [List.map_cons, List.flatten_cons, tB_flat l]; rfl
theorem own_tB {w : World} {base : Nat} {v : Value} {L : List Bs} (h : w.ownsRow base 9 1 v L.length (L.map encStr)) : ∃ A cap, v = .slice A L.length cap ∧ L.length ≤ cap ∧ cap ≤ maxLen ∧ SlAt w w.heap.size 1 A (L.map tB) := by
  have e := tB_flat L
  have h' : w.ownsRow base 9 1 v (L.map tB).length (L.map tB).flatten := by rw [List.length_map, e]; exact h
  obtain ⟨A, cap, h1, h2, h3, h4⟩ := own_at h' (fun xs hx => by obtain ⟨c, _, rfl⟩ := List.mem_map.1 hx; rfl)
  rw [List.length_map] at h1 h2
  exact ⟨A, cap, h1, h2, h3, h4⟩
theorem tb_at {w : World} {B : Nat} {A : Option Addr} {xs : List Bs} (h : SlAt w B 1 A (xs.map tB)) {k : Nat} (hk : k < xs.length) :
    ∃ b o, A = some ⟨b, o, none⟩ ∧ b < B ∧ w.cell? ⟨b, o + k, none⟩ = some (.string ⟨(xs[k]).toArray⟩) := by
  obtain ⟨b, o, h1, h2, h3⟩ := h (by simp; omega)
  have e : (xs.map tB).getD k [] = tB xs[k] := by simp [List.getD, hk]
  have h4 := h3 k (by simpa using hk)
  rw [e] at h4
  have h5 := h4 0 (by omega)
  simp at h5
  exact ⟨b, o, h1, h2, h5⟩
set_option maxRecDepth 100000 in
set_option maxHeartbeats 4000000 in
theorem r_EqStr (A C : Option Addr) (ca cc : Nat) (L : List Bs) (w : World) (hA : SlAt w w.heap.size 1 A (L.map tB)) (hC : SlAt w w.heap.size 1 C (L.map tB)) (h1 : L.length ≤ ca) (h2 : L.length ≤ cc) (m1 : ca ≤ maxLen) (m2 : cc ≤ maxLen) :
    Calls Tryz.prog 9 #[.slice A L.length ca, .slice C L.length cc] w fun e w' => e = .returned (.bool true) ∧ Below w.heap.size w w' := by
  unfold maxLen at m1 m2
  go_enter Tryz.func9, Tryz.ntmps9
  go_wp2_with fail
  go_loopw [14] (fun i wr => ∃ k : Nat, k ≤ L.length ∧ i = .int .i64 k ∧ Below w.heap.size w wr) (fun i _ => L.length - (intOf i).toNat)
  case atStart => exact ⟨0, Nat.zero_le _, rfl, Below.refl _ _⟩
  case round =>
    obtain ⟨k, hk, rfl, hB⟩ := hrel
    by_cases hlt : k < L.length
    · obtain ⟨b, o, rfl, hb, c0⟩ := tb_at (hA.below hB) hlt
      obtain ⟨b2, o2, rfl, hb2, d0⟩ := tb_at (hC.below hB) hlt
      have hi1 : (0 : Int) ≤ (k : Int) := by omega
      have hi2 : (k : Int) < (L.length : Int) := by omega
      obtain ⟨x, hx⟩ : ∃ x, L[k] = x := ⟨_, rfl⟩
      rw [hx] at c0 d0
      clear hx
      go_wp2_with fail
      exact ⟨⟨k + 1, by omega, by go_num, hB⟩, by simp [intOf]; omega⟩
    · obtain rfl : k = L.length := by omega
      go_wp2_with fail
      go_ret
      exact ⟨rfl, hB⟩
end Go.Proofs.YthkiohemolndeaaGreatDoor
