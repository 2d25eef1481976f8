/- Walks of the reference's Eq at lists of rules, eras and links that hold the same. -/
import Derived.Test.YtgnodiegippkeaaDoorSl
import Derived.Test.YtgnodiegippkeaaDoorBoxes
namespace Go.Proofs.YtgnodiegippkeaaDoor
open Go.RowKit
set_option linter.unusedVariables false
structure RuT where
  (name : ByteArray) (f t m k wd n a b sv : Int) (letter : ByteArray)
def ruC (r : RuT) : List Value := [.string r.name, .int .i64 r.f, .int .i64 r.t, .int .i64 r.m, .int .i64 r.k, .int .i64 r.wd, .int .i64 r.n, .int .i64 r.a, .int .i64 r.b, .int .i64 r.sv, .string r.letter]
theorem ru_at {w : World} {B : Nat} {A : Option Addr} {rs : List RuT} (h : SlAt w B 11 A (rs.map ruC)) {k : Nat} (hk : k < rs.length) :
    ∃ b o, A = some ⟨b, o, none⟩ ∧ b < B ∧ w.cell? ⟨b, o + k * 11, none⟩ = some (.string rs[k].name) ∧ w.cell? ⟨b, o + k * 11 + 1, none⟩ = some (.int .i64 rs[k].f) ∧ w.cell? ⟨b, o + k * 11 + 2, none⟩ = some (.int .i64 rs[k].t) ∧
      w.cell? ⟨b, o + k * 11 + 3, none⟩ = some (.int .i64 rs[k].m) ∧ w.cell? ⟨b, o + k * 11 + 4, none⟩ = some (.int .i64 rs[k].k) ∧ w.cell? ⟨b, o + k * 11 + 5, none⟩ = some (.int .i64 rs[k].wd) ∧ w.cell? ⟨b, o + k * 11 + 6, none⟩ = some (.int .i64 rs[k].n) ∧
      w.cell? ⟨b, o + k * 11 + 7, none⟩ = some (.int .i64 rs[k].a) ∧ w.cell? ⟨b, o + k * 11 + 8, none⟩ = some (.int .i64 rs[k].b) ∧ w.cell? ⟨b, o + k * 11 + 9, none⟩ = some (.int .i64 rs[k].sv) ∧ w.cell? ⟨b, o + k * 11 + 10, none⟩ = some (.string rs[k].letter) := by
  obtain ⟨b, o, h1, h2, h3⟩ := h (by simp; omega)
  have e : (rs.map ruC).getD k [] = ruC rs[k] := by simp [List.getD, hk]
  have h4 := h3 k (by simpa using hk)
  rw [e] at h4
  exact ⟨b, o, h1, h2, h4 0 (by omega), h4 1 (by omega), h4 2 (by omega), h4 3 (by omega), h4 4 (by omega), h4 5 (by omega), h4 6 (by omega), h4 7 (by omega), h4 8 (by omega), h4 9 (by omega), h4 10 (by omega)⟩
set_option maxRecDepth 100000 in
set_option maxHeartbeats 4000000 in
theorem r_EqRule (A C : Option Addr) (ca cc : Nat) (rs : List RuT) (w : World) (hA : SlAt w w.heap.size 11 A (rs.map ruC)) (hC : SlAt w w.heap.size 11 C (rs.map ruC)) (h1 : rs.length ≤ ca) (h2 : rs.length ≤ cc) (m1 : ca ≤ maxLen) (m2 : cc ≤ maxLen) :
    Calls Tryd.prog 14 #[.slice A rs.length ca, .slice C rs.length cc] w fun e w' => e = .returned (.bool true) ∧ Below w.heap.size w w' := by
  unfold maxLen at m1 m2
  go_enter Tryd.func14, Tryd.ntmps14
  go_wp2_with fail
  go_loopw [14] (fun i wr => ∃ k : Nat, k ≤ rs.length ∧ i = .int .i64 k ∧ Below w.heap.size w wr) (fun i _ => rs.length - (intOf i).toNat)
  case atStart => exact ⟨0, Nat.zero_le _, rfl, Below.refl _ _⟩
  case round =>
    obtain ⟨k, hk, rfl, hB⟩ := hrel
    by_cases hlt : k < rs.length
    · obtain ⟨b, o, rfl, hb, c0, c1, c2, c3, c4, c5, c6, c7, c8, c9, c10⟩ := ru_at (hA.below hB) hlt
      obtain ⟨b2, o2, rfl, hb2, d0, d1, d2, d3, d4, d5, d6, d7, d8, d9, d10⟩ := ru_at (hC.below hB) hlt
      have hz := hB.size
      have hb' : b < wr.heap.size := by omega
      have hb2' : b2 < wr.heap.size := by omega
      have hi1 : (0 : Int) ≤ (k : Int) := by omega
      have hi2 : (k : Int) < (rs.length : Int) := by omega
      obtain ⟨x, hx⟩ : ∃ x, rs[k] = x := ⟨_, rfl⟩
      rw [hx] at c0 c1 c2 c3 c4 c5 c6 c7 c8 c9 c10 d0 d1 d2 d3 d4 d5 d6 d7 d8 d9 d10
      clear hx
      go_wp2_with fail
      go_quiet (fail)
      go_wp2_with fail
      exact ⟨⟨k + 1, by omega, by go_num, below_drewN (hB.alloc hz _) _⟩, by simp [intOf]; omega⟩
    · obtain rfl : k = rs.length := by omega
      go_wp2_with fail
      go_ret
      exact ⟨rfl, hB⟩
end Go.Proofs.YtgnodiegippkeaaDoor
