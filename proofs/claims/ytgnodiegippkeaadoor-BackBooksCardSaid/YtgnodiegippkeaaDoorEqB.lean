/- Walks of the reference's ZoneEq and BookEq at books that hold the same. -/
import Derived.Test.YtgnodiegippkeaaDoorEqS
import Derived.Deep.RegionHeld3
import Derived.Deep.DrawnRows
namespace Go.Proofs.YtgnodiegippkeaaDoor
open Go.RowKit
set_option linter.unusedVariables false
structure ErT where
  (off : Int) (rules : ByteArray) (save : Int) (format : ByteArray) (until_ : Int)
def erC (r : ErT) : List Value := [.int .i64 r.off, .string r.rules, .int .i64 r.save, .string r.format, .int .i64 r.until_]
theorem er_at {w : World} {B : Nat} {A : Option Addr} {rs : List ErT} (h : SlAt w B 5 A (rs.map erC)) {k : Nat} (hk : k < rs.length) :
    ∃ b o, A = some ⟨b, o, none⟩ ∧ b < B ∧ w.cell? ⟨b, o + k * 5, none⟩ = some (.int .i64 rs[k].off) ∧ w.cell? ⟨b, o + k * 5 + 1, none⟩ = some (.string rs[k].rules) ∧ w.cell? ⟨b, o + k * 5 + 2, none⟩ = some (.int .i64 rs[k].save) ∧
      w.cell? ⟨b, o + k * 5 + 3, none⟩ = some (.string rs[k].format) ∧ w.cell? ⟨b, o + k * 5 + 4, none⟩ = some (.int .i64 rs[k].until_) := by
  obtain ⟨b, o, h1, h2, h3⟩ := h (by simp; omega)
  have e : (rs.map erC).getD k [] = erC rs[k] := by simp [List.getD, hk]
  have h4 := h3 k (by simpa using hk)
  rw [e] at h4
  exact ⟨b, o, h1, h2, h4 0 (by omega), h4 1 (by omega), h4 2 (by omega), h4 3 (by omega), h4 4 (by omega)⟩
set_option maxRecDepth 100000 in
set_option maxHeartbeats 4000000 in
theorem r_EqEra (A C : Option Addr) (ca cc : Nat) (rs : List ErT) (w : World) (hA : SlAt w w.heap.size 5 A (rs.map erC)) (hC : SlAt w w.heap.size 5 C (rs.map erC)) (h1 : rs.length ≤ ca) (h2 : rs.length ≤ cc) (m1 : ca ≤ maxLen) (m2 : cc ≤ maxLen) :
    Calls Tryd.prog 51 #[.slice A rs.length ca, .slice C rs.length cc] w fun e w' => e = .returned (.bool true) ∧ Below w.heap.size w w' := by
  unfold maxLen at m1 m2
  go_enter Tryd.func51, Tryd.ntmps51
  go_wp2_with fail
  go_loopw [14] (fun i wr => ∃ k : Nat, k ≤ rs.length ∧ i = .int .i64 k ∧ Below w.heap.size w wr) (fun i _ => rs.length - (intOf i).toNat)
  case atStart => exact ⟨0, Nat.zero_le _, rfl, Below.refl _ _⟩
  case round =>
    obtain ⟨k, hk, rfl, hB⟩ := hrel
    by_cases hlt : k < rs.length
    · obtain ⟨b, o, rfl, hb, c0, c1, c2, c3, c4⟩ := er_at (hA.below hB) hlt
      obtain ⟨b2, o2, rfl, hb2, d0, d1, d2, d3, d4⟩ := er_at (hC.below hB) hlt
      have hz := hB.size
      have hb' : b < wr.heap.size := by omega
      have hb2' : b2 < wr.heap.size := by omega
      have hi1 : (0 : Int) ≤ (k : Int) := by omega
      have hi2 : (k : Int) < (rs.length : Int) := by omega
      obtain ⟨x, hx⟩ : ∃ x, rs[k] = x := ⟨_, rfl⟩
      rw [hx] at c0 c1 c2 c3 c4 d0 d1 d2 d3 d4
      clear hx
      go_wp2_with fail
      go_quiet (fail)
      go_wp2_with fail
      exact ⟨⟨k + 1, by omega, by go_num, below_drewN (hB.alloc hz _) _⟩, by simp [intOf]; omega⟩
    · obtain rfl : k = rs.length := by omega
      go_wp2_with fail
      go_ret
      exact ⟨rfl, hB⟩
set_option maxRecDepth 100000 in
set_option maxHeartbeats 1000000 in
theorem r_EqLink0 (w : World) :
    Calls Tryd.prog 30 #[.slice none 0 0, .slice none 0 0] w fun e w' => e = .returned (.bool true) ∧ w = w' := by
  go_enter Tryd.func30, Tryd.ntmps30
  go_wp2_with fail
  go_loop [14] (fun i => i = .int .i64 0) (fun _ => 0)
  case atStart => exact rfl
  case round =>
    obtain rfl := hrel
    go_wp2_with fail
    go_ret
    exact ⟨rfl, rfl⟩
set_option maxRecDepth 100000 in
set_option maxHeartbeats 2000000 in
theorem r_ZoneEq (nm : ByteArray) (A C : Option Addr) (ca cc : Nat) (er : ErT) (w : World) (hA : SlAt w w.heap.size 5 A ([er].map erC)) (hC : SlAt w w.heap.size 5 C ([er].map erC)) (h1 : 1 ≤ ca) (h2 : 1 ≤ cc) (m1 : ca ≤ maxLen) (m2 : cc ≤ maxLen) :
    Calls Tryd.prog 31 #[.agg #[.string nm, .slice A 1 ca], .agg #[.string nm, .slice C 1 cc]] w fun e w' => e = .returned (.bool true) ∧ Below w.heap.size w w' := by
  obtain ⟨q1, q2, _, q5, hb0⟩ := boxes2 w #[.string nm, .slice A 1 ca] #[.string nm, .slice C 1 cc] 60 60
  have hE := Lib.hid (r_EqEra A C ca cc [er] _ ((hA.below hb0).more hb0.size) ((hC.below hb0).more hb0.size) h1 h2 m1 m2)
  have HB := Lib.hid hb0
  clear q1 q2 q5 hb0 hA hC
  go_enter Tryd.func31, Tryd.ntmps31
  go_wp2_with fail
  refine (show Calls Tryd.prog _ _ _ _ from hE.out).mono ?_
  rintro e w1 ⟨rfl, hb⟩
  go_wp2_with fail
  go_ret
  exact ⟨rfl, HB.out.trans (hb.mono HB.out.size)⟩
end Go.Proofs.YtgnodiegippkeaaDoor
