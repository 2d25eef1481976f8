/- Walks of the reference's TableEq at tables that hold the same. -/
import Derived.Test.YtcoapllgpjjbcaaTabW
import Derived.Test.YtcoapllgpjjbcaaBlk
import Derived.Deep.RegionHeld3
import Derived.Deep.DrawnRows
namespace Go.Proofs.Ytcoapllgpjjbcaa
open Go.RowKit
set_option linter.unusedVariables false
attribute [local go_sem ↓] Go.wp_at_zero Go.wp_at_succ
set_option maxRecDepth 100000 in
set_option maxHeartbeats 4000000 in
theorem r_EqTy (A C : Option Addr) (ca cc : Nat) (rs : List Ty) (w : World) (hA : SlAt w w.heap.size 3 A (rs.map tyCells)) (hC : SlAt w w.heap.size 3 C (rs.map tyCells)) (h1 : rs.length ≤ ca) (h2 : rs.length ≤ cc) (m1 : ca ≤ maxLen) (m2 : cc ≤ maxLen) :
    Calls Try.prog 25 #[.slice A rs.length ca, .slice C rs.length cc] w fun e w' => e = .returned (.bool true) ∧ Below w.heap.size w w' := by
  unfold maxLen at m1 m2
  go_enter Try.func25, Try.ntmps25
  go_wp2_with fail
  go_loopw [14] (fun i wr => ∃ k : Nat, k ≤ rs.length ∧ i = .int .i64 k ∧ Below w.heap.size w wr) (fun i _ => rs.length - (intOf i).toNat)
  case atStart => exact ⟨0, Nat.zero_le _, rfl, Below.refl _ _⟩
  case round =>
    obtain ⟨k, hk, rfl, hB⟩ := hrel
    by_cases hlt : k < rs.length
    · obtain ⟨b, o, rfl, hb, c0, c1, c2⟩ := ty_at (hA.below hB) hlt
      obtain ⟨b2, o2, rfl, hb2, d0, d1, d2⟩ := ty_at (hC.below hB) hlt
      have hz := hB.size
      have hb' : b < wr.heap.size := by omega
      have hb2' : b2 < wr.heap.size := by omega
      have hi1 : (0 : Int) ≤ (k : Int) := by omega
      have hi2 : (k : Int) < (rs.length : Int) := by omega
      obtain ⟨x, hx⟩ : ∃ x, rs[k] = x := ⟨_, rfl⟩
      rw [hx] at c0 c1 c2 d0 d1 d2
      clear hx
      go_wp2_with fail
      go_quiet (fail)
      go_wp2_with fail
      exact ⟨⟨k + 1, by omega, by go_num, below_drewN (hB.alloc hz _) _⟩, by simp [intOf]; omega⟩
    · obtain rfl : k = rs.length := by omega
      go_wp2_with fail
      go_ret
      exact ⟨rfl, hB⟩
set_option maxRecDepth 100000 in
set_option maxHeartbeats 4000000 in
theorem r_EqCh (A C : Option Addr) (ca cc : Nat) (rs : List Ch) (w : World) (hA : SlAt w w.heap.size 2 A (rs.map chCells)) (hC : SlAt w w.heap.size 2 C (rs.map chCells)) (h1 : rs.length ≤ ca) (h2 : rs.length ≤ cc) (m1 : ca ≤ maxLen) (m2 : cc ≤ maxLen) :
    Calls Try.prog 26 #[.slice A rs.length ca, .slice C rs.length cc] w fun e w' => e = .returned (.bool true) ∧ Below w.heap.size w w' := by
  unfold maxLen at m1 m2
  go_enter Try.func26, Try.ntmps26
  go_wp2_with fail
  go_loopw [14] (fun i wr => ∃ k : Nat, k ≤ rs.length ∧ i = .int .i64 k ∧ Below w.heap.size w wr) (fun i _ => rs.length - (intOf i).toNat)
  case atStart => exact ⟨0, Nat.zero_le _, rfl, Below.refl _ _⟩
  case round =>
    obtain ⟨k, hk, rfl, hB⟩ := hrel
    by_cases hlt : k < rs.length
    · obtain ⟨b, o, rfl, hb, c0, c1⟩ := ch_at (hA.below hB) hlt
      obtain ⟨b2, o2, rfl, hb2, d0, d1⟩ := ch_at (hC.below hB) hlt
      have hz := hB.size
      have hb' : b < wr.heap.size := by omega
      have hb2' : b2 < wr.heap.size := by omega
      have hi1 : (0 : Int) ≤ (k : Int) := by omega
      have hi2 : (k : Int) < (rs.length : Int) := by omega
      obtain ⟨x, hx⟩ : ∃ x, rs[k] = x := ⟨_, rfl⟩
      rw [hx] at c0 c1 d0 d1
      clear hx
      go_wp2_with fail
      go_quiet (fail)
      go_wp2_with fail
      exact ⟨⟨k + 1, by omega, by go_num, below_drewN (hB.alloc hz _) _⟩, by simp [intOf]; omega⟩
    · obtain rfl : k = rs.length := by omega
      go_wp2_with fail
      go_ret
      exact ⟨rfl, hB⟩
set_option maxRecDepth 100000 in
set_option maxHeartbeats 4000000 in
theorem r_TableEq (A C A2 C2 : Option Addr) (cT cC cT2 cC2 : Nat) (ts : List Ty) (first : Int) (cs : List Ch) (w : World) (H : TabAt w A C cT cC ts cs) (H2 : TabAt w A2 C2 cT2 cC2 ts cs) :
    Calls Try.prog 11 #[.agg #[.slice A ts.length cT, .int .i64 first, .slice C cs.length cC], .agg #[.slice A2 ts.length cT2, .int .i64 first, .slice C2 cs.length cC2]] w fun e w' => e = .returned (.bool true) ∧ Below w.heap.size w w' := by
  obtain ⟨q1, q2, q4, q5, hb0⟩ := boxes2 w #[.slice A ts.length cT, .int .i64 first, .slice C cs.length cC] #[.slice A2 ts.length cT2, .int .i64 first, .slice C2 cs.length cC2] 25 25
  have a1 := H.below hb0
  have a2 := H2.below hb0
  have HT := Lib.hid (r_EqTy A A2 cT cT2 ts _ a1.T a2.T a1.cT a2.cT a1.mT a2.mT)
  have HC := Lib.hid (fun W (hb : Below w.heap.size w W) => r_EqCh C C2 cC cC2 cs W (H.below hb).C (H2.below hb).C H.cC H2.cC H.mC H2.mC)
  have X1 := Lib.hid q1
  have X2 := Lib.hid q2
  have X5 := Lib.hid q5
  have HB := Lib.hid hb0
  clear q1 q2 q4 q5 hb0 a1 a2
  go_enter Try.func11, Try.ntmps11
  go_wp2_with fail
  refine (show Calls Try.prog _ _ _ _ from HT.out).mono ?_
  rintro e w1 ⟨rfl, hb⟩
  have hs1 : ∀ i, w1.cell? ⟨w.heap.size, i, none⟩ = (#[.slice A ts.length cT, .int .i64 first, .slice C cs.length cC] : Array Value)[i]? := fun i => (hb.cell (by rw [X5.out]; exact Nat.lt_succ_of_lt (Nat.lt_succ_self _))).trans (X1.out i)
  have hs2 : ∀ i, w1.cell? ⟨w.heap.size + 1, i, none⟩ = (#[.slice A2 ts.length cT2, .int .i64 first, .slice C2 cs.length cC2] : Array Value)[i]? := fun i => (hb.cell (by rw [X5.out]; exact Nat.lt_succ_self _)).trans (X2.out i)
  have hB := HB.out.trans (hb.mono HB.out.size)
  clear hb HT
  go_wp2_with fail
  refine (show Calls Try.prog _ _ _ _ from HC.out _ hB).mono ?_
  rintro e w2 ⟨rfl, hb⟩
  go_wp2_with fail
  go_ret
  exact ⟨ret_bool (by simp), hB.trans (hb.mono hB.size)⟩
end Go.Proofs.Ytcoapllgpjjbcaa
