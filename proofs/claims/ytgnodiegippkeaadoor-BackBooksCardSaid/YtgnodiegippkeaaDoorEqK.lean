/- Walk of the reference's BookEq at books that hold the same. -/
import Derived.Test.YtgnodiegippkeaaDoorEqB
namespace Go.Proofs.YtgnodiegippkeaaDoor
open Go.RowKit
set_option linter.unusedVariables false
theorem KB.step {w W W2 : World} {B g g2 : Nat} {X1 X2 : Array Value} {n1 e1 n2 e2 : Value} (hBw : B = w.heap.size) (h : (∀ i, W.cell? ⟨B, i, none⟩ = X1[i]?) ∧ (∀ i, W.cell? ⟨B + 1, i, none⟩ = X2[i]?) ∧ W.cell? ⟨g, 0, none⟩ = some n1 ∧ W.cell? ⟨g, 1, none⟩ = some e1 ∧ W.cell? ⟨g2, 0, none⟩ = some n2 ∧ W.cell? ⟨g2, 1, none⟩ = some e2 ∧ B + 1 < W.heap.size ∧ g < W.heap.size ∧ g2 < W.heap.size ∧ Below B w W) (h2 : Below W.heap.size W W2) : (∀ i, W2.cell? ⟨B, i, none⟩ = X1[i]?) ∧ (∀ i, W2.cell? ⟨B + 1, i, none⟩ = X2[i]?) ∧ W2.cell? ⟨g, 0, none⟩ = some n1 ∧ W2.cell? ⟨g, 1, none⟩ = some e1 ∧ W2.cell? ⟨g2, 0, none⟩ = some n2 ∧ W2.cell? ⟨g2, 1, none⟩ = some e2 ∧ B + 1 < W2.heap.size ∧ g < W2.heap.size ∧ g2 < W2.heap.size ∧ Below B w W2 := by
  subst hBw
  obtain ⟨a1, a2, a3, a4, a5, a6, a7, a8, a9, a10⟩ := h
  have hz := h2.size
  exact ⟨fun i => (h2.cell (show (⟨w.heap.size, i, none⟩ : Addr).block < W.heap.size from Nat.lt_of_succ_lt a7)).trans (a1 i), fun i => (h2.cell (show (⟨w.heap.size + 1, i, none⟩ : Addr).block < W.heap.size from a7)).trans (a2 i), (h2.cell a8).trans a3, (h2.cell a8).trans a4, (h2.cell a9).trans a5, (h2.cell a9).trans a6, by omega, by omega, by omega, a10.trans (h2.mono a10.size)⟩
attribute [local go_sem ↓] Go.wp_at_zero Go.wp_at_succ
set_option maxRecDepth 100000 in
set_option maxHeartbeats 4000000 in
theorem r_BookEq1 (nm : ByteArray) (er : ErT) (rs : List RuT) (A A2 E E2 : Option Addr) (g g2 ca ca2 cz cz2 ce ce2 : Nat) (w : World) (hA : SlAt w w.heap.size 11 A (rs.map ruC)) (hA2 : SlAt w w.heap.size 11 A2 (rs.map ruC)) (h1 : rs.length ≤ ca) (h2 : rs.length ≤ ca2) (m1 : ca ≤ maxLen) (m2 : ca2 ≤ maxLen)
    (hg : g < w.heap.size) (hg2 : g2 < w.heap.size) (c1 : w.cell? ⟨g, 0, none⟩ = some (.string nm)) (c2 : w.cell? ⟨g, 1, none⟩ = some (.slice E 1 ce)) (d1 : w.cell? ⟨g2, 0, none⟩ = some (.string nm)) (d2 : w.cell? ⟨g2, 1, none⟩ = some (.slice E2 1 ce2))
    (hE : SlAt w w.heap.size 5 E ([er].map erC)) (hE2 : SlAt w w.heap.size 5 E2 ([er].map erC)) (e1 : 1 ≤ ce) (e2 : 1 ≤ ce2) (e3 : ce ≤ maxLen) (e4 : ce2 ≤ maxLen) (z1 : 1 ≤ cz) (z2 : 1 ≤ cz2) (z3 : cz ≤ maxLen) (z4 : cz2 ≤ maxLen) :
    Calls Tryd.prog 11 #[.agg #[.slice A rs.length ca, .slice (some ⟨g, 0, none⟩) 1 cz, .slice none 0 0], .agg #[.slice A2 rs.length ca2, .slice (some ⟨g2, 0, none⟩) 1 cz2, .slice none 0 0]] w fun e w' => e = .returned (.bool true) ∧ Below w.heap.size w w' := by
  obtain ⟨q1, q2, q4, q5, hb0⟩ := boxes2 w #[.slice A rs.length ca, .slice (some ⟨g, 0, none⟩) 1 cz, .slice none 0 0] #[.slice A2 rs.length ca2, .slice (some ⟨g2, 0, none⟩) 1 cz2, .slice none 0 0] 37 37
  have hK : (∀ i, ((w.alloc (.cells #[.slice A rs.length ca, .slice (some ⟨g, 0, none⟩) 1 cz, .slice none 0 0] 37)).alloc (.cells #[.slice A2 rs.length ca2, .slice (some ⟨g2, 0, none⟩) 1 cz2, .slice none 0 0] 37)).cell? ⟨w.heap.size, i, none⟩ = (#[.slice A rs.length ca, .slice (some ⟨g, 0, none⟩) 1 cz, .slice none 0 0] : Array Value)[i]?) ∧ (∀ i, ((w.alloc (.cells #[.slice A rs.length ca, .slice (some ⟨g, 0, none⟩) 1 cz, .slice none 0 0] 37)).alloc (.cells #[.slice A2 rs.length ca2, .slice (some ⟨g2, 0, none⟩) 1 cz2, .slice none 0 0] 37)).cell? ⟨w.heap.size + 1, i, none⟩ = (#[.slice A2 rs.length ca2, .slice (some ⟨g2, 0, none⟩) 1 cz2, .slice none 0 0] : Array Value)[i]?) ∧ ((w.alloc (.cells #[.slice A rs.length ca, .slice (some ⟨g, 0, none⟩) 1 cz, .slice none 0 0] 37)).alloc (.cells #[.slice A2 rs.length ca2, .slice (some ⟨g2, 0, none⟩) 1 cz2, .slice none 0 0] 37)).cell? ⟨g, 0, none⟩ = some (.string nm) ∧ ((w.alloc (.cells #[.slice A rs.length ca, .slice (some ⟨g, 0, none⟩) 1 cz, .slice none 0 0] 37)).alloc (.cells #[.slice A2 rs.length ca2, .slice (some ⟨g2, 0, none⟩) 1 cz2, .slice none 0 0] 37)).cell? ⟨g, 1, none⟩ = some (.slice E 1 ce) ∧ ((w.alloc (.cells #[.slice A rs.length ca, .slice (some ⟨g, 0, none⟩) 1 cz, .slice none 0 0] 37)).alloc (.cells #[.slice A2 rs.length ca2, .slice (some ⟨g2, 0, none⟩) 1 cz2, .slice none 0 0] 37)).cell? ⟨g2, 0, none⟩ = some (.string nm) ∧ ((w.alloc (.cells #[.slice A rs.length ca, .slice (some ⟨g, 0, none⟩) 1 cz, .slice none 0 0] 37)).alloc (.cells #[.slice A2 rs.length ca2, .slice (some ⟨g2, 0, none⟩) 1 cz2, .slice none 0 0] 37)).cell? ⟨g2, 1, none⟩ = some (.slice E2 1 ce2) ∧ w.heap.size + 1 < ((w.alloc (.cells #[.slice A rs.length ca, .slice (some ⟨g, 0, none⟩) 1 cz, .slice none 0 0] 37)).alloc (.cells #[.slice A2 rs.length ca2, .slice (some ⟨g2, 0, none⟩) 1 cz2, .slice none 0 0] 37)).heap.size ∧ g < ((w.alloc (.cells #[.slice A rs.length ca, .slice (some ⟨g, 0, none⟩) 1 cz, .slice none 0 0] 37)).alloc (.cells #[.slice A2 rs.length ca2, .slice (some ⟨g2, 0, none⟩) 1 cz2, .slice none 0 0] 37)).heap.size ∧ g2 < ((w.alloc (.cells #[.slice A rs.length ca, .slice (some ⟨g, 0, none⟩) 1 cz, .slice none 0 0] 37)).alloc (.cells #[.slice A2 rs.length ca2, .slice (some ⟨g2, 0, none⟩) 1 cz2, .slice none 0 0] 37)).heap.size ∧ Below w.heap.size w ((w.alloc (.cells #[.slice A rs.length ca, .slice (some ⟨g, 0, none⟩) 1 cz, .slice none 0 0] 37)).alloc (.cells #[.slice A2 rs.length ca2, .slice (some ⟨g2, 0, none⟩) 1 cz2, .slice none 0 0] 37)) := ⟨q1, q2, (hb0.cell hg).trans c1, (hb0.cell hg).trans c2, (hb0.cell hg2).trans d1, (hb0.cell hg2).trans d2, by rw [q5]; omega, by rw [q5]; omega, by rw [q5]; omega, hb0⟩
  have HR := Lib.hid (r_EqRule A A2 ca ca2 rs _ ((hA.below hb0).more hb0.size) ((hA2.below hb0).more hb0.size) h1 h2 m1 m2)
  have HZ := Lib.hid (fun W (hb : Below w.heap.size w W) => r_ZoneEq nm E E2 ce ce2 er W ((hE.below hb).more hb.size) ((hE2.below hb).more hb.size) e1 e2 e3 e4)
  have HK := Lib.hid hK
  unfold maxLen at m1 m2 z3 z4
  clear q1 q2 q4 q5 hb0 hK hA hA2 hE hE2 c1 c2 d1 d2 e3 e4
  go_enter Tryd.func11, Tryd.ntmps11
  go_wp2_with fail
  refine (show Calls Tryd.prog _ _ _ _ from HR.out).mono ?_
  rintro e w1 ⟨rfl, hb⟩
  have hS := KB.step rfl HK.out hb
  have hs1 := hS.1
  have hs2 := hS.2.1
  clear hb HR HK
  go_wp2_with fail
  refine (r_EqLink0 _).mono ?_
  rintro e w2 ⟨rfl, rfl⟩
  go_wp2_with fail
  clear hs1 hs2
  go_loopw [32] (fun i wr => ∃ k : Nat, k ≤ 1 ∧ i = .int .i64 k ∧ ((∀ i, wr.cell? ⟨w.heap.size, i, none⟩ = (#[.slice A rs.length ca, .slice (some ⟨g, 0, none⟩) 1 cz, .slice none 0 0] : Array Value)[i]?) ∧ (∀ i, wr.cell? ⟨w.heap.size + 1, i, none⟩ = (#[.slice A2 rs.length ca2, .slice (some ⟨g2, 0, none⟩) 1 cz2, .slice none 0 0] : Array Value)[i]?) ∧ wr.cell? ⟨g, 0, none⟩ = some (.string nm) ∧ wr.cell? ⟨g, 1, none⟩ = some (.slice E 1 ce) ∧ wr.cell? ⟨g2, 0, none⟩ = some (.string nm) ∧ wr.cell? ⟨g2, 1, none⟩ = some (.slice E2 1 ce2) ∧ w.heap.size + 1 < wr.heap.size ∧ g < wr.heap.size ∧ g2 < wr.heap.size ∧ Below w.heap.size w wr)) (fun i _ => 1 - (intOf i).toNat)
  case atStart => exact ⟨0, by omega, rfl, hS⟩
  case round =>
    clear hS
    obtain ⟨k, hk, rfl, hS⟩ := hrel
    by_cases hk0 : k = 0
    · subst hk0
      have hs1 := hS.1
      have i0 : (0 : Int) ≤ 0 := by omega
      have i1 : (0 : Int) < 1 := by omega
      clear hs1
      go_wp2_with fail
      go_region_held3 (fun w' => (∀ i, w'.cell? ⟨w.heap.size, i, none⟩ = (#[.slice A rs.length ca, .slice (some ⟨g, 0, none⟩) 1 cz, .slice none 0 0] : Array Value)[i]?) ∧ (∀ i, w'.cell? ⟨w.heap.size + 1, i, none⟩ = (#[.slice A2 rs.length ca2, .slice (some ⟨g2, 0, none⟩) 1 cz2, .slice none 0 0] : Array Value)[i]?) ∧ w'.cell? ⟨g, 0, none⟩ = some (.string nm) ∧ w'.cell? ⟨g, 1, none⟩ = some (.slice E 1 ce) ∧ w'.cell? ⟨g2, 0, none⟩ = some (.string nm) ∧ w'.cell? ⟨g2, 1, none⟩ = some (.slice E2 1 ce2) ∧ w.heap.size + 1 < w'.heap.size ∧ g < w'.heap.size ∧ g2 < w'.heap.size ∧ Below w.heap.size w w')
        (first | exact KB.step rfl hS (Below.refl _ _).drew | assumption | exact KB.step rfl (by assumption) (by assumption))
        (first | (go_at_call 31; refine (HZ.out _ ?_).mono ?_; (first | exact hS.2.2.2.2.2.2.2.2.2.drew | assumption); rintro e w5 ⟨rfl, hb5⟩))
      rename_i hG
      go_wp2_with fail
      exact ⟨⟨1, by omega, by go_num, hG⟩, by simp [intOf]⟩
    · obtain rfl : k = 1 := by omega
      go_wp2_with fail
      go_ret
      exact ⟨rfl, hS.2.2.2.2.2.2.2.2.2⟩
end Go.Proofs.YtgnodiegippkeaaDoor
