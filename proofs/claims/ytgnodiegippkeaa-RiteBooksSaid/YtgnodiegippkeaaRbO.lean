/- Walk of the closure in the reference's RiteBook. -/
import Derived.Test.YtgnodiegippkeaaRbP
namespace Go.Proofs.Ytgnodiegippkeaa
open Go.RowKit
set_option linter.unusedVariables false
set_option maxRecDepth 100000 in
set_option maxHeartbeats 1000000 in
theorem r_one (m k d a sv fr to : Int) (b1 b2 : Nat) (h : 1 ≤ k ∧ k ≤ 5) (w : World) (h1 : w.cell? ⟨b1, 0, none⟩ = some (.int .i64 fr)) (h2 : w.cell? ⟨b2, 0, none⟩ = some (.int .i64 to)) (hb1 : b1 < w.heap.size) (hb2 : b2 < w.heap.size) :
    Calls Try.prog 69 #[.agg #[.int .i64 m, .int .i64 k, .int .i64 d, .int .i64 a], .int .i64 sv, .pointer (some ⟨b1, 0, none⟩), .pointer (some ⟨b2, 0, none⟩)] w
      fun e w' => e = .returned (.agg #[.string RITE, .int .i64 fr, .int .i64 to, .int .i64 m, .int .i64 (rdK k), .int .i64 d, .int .i64 (rdN k), .int .i64 a, .int .i64 0, .int .i64 sv, .string ⟨#[45]⟩]) ∧ Below w.heap.size w w' := by
  obtain ⟨k1, k2⟩ := h
  have p1 : b1 < w.heap.size + 1 := by omega
  have p2 : b1 < w.heap.size + 1 + 1 := by omega
  have p3 : b1 < w.heap.size + 2 := by omega
  have p4 : b2 < w.heap.size + 1 := by omega
  have p5 : b2 < w.heap.size + 1 + 1 := by omega
  have p6 : b2 < w.heap.size + 2 := by omega
  by_cases h5 : k = 5
  · subst h5
    go_enter Try.func69, Try.ntmps69
    go_wp2_with fail
    refine bodyPost_ret (v := .agg #[.string RITE, .int .i64 fr, .int .i64 to, .int .i64 m, .int .i64 2, .int .i64 d, .int .i64 0, .int .i64 a, .int .i64 0, .int .i64 sv, .string ⟨#[45]⟩]) (by simp [results, Try.results69, go_sem, RITE]) rfl ⟨rfl, (by repeat (first | exact Below.refl _ _ | assumption | apply Below.drew | apply below_drewN | (refine Below.alloc ?_ (by simp; try omega) _) | (refine Below.setCell ?_ (by simp; try omega) _)))⟩
  · have e1 : rdK k = 3 := by rw [rdK, if_neg h5]
    have e2 : rdN k = 7 * k - 6 := by rw [rdN, if_neg h5]
    rw [e1, e2]
    clear e1 e2
    go_enter Try.func69, Try.ntmps69
    go_wp2_with fail
    refine bodyPost_ret (v := .agg #[.string RITE, .int .i64 fr, .int .i64 to, .int .i64 m, .int .i64 3, .int .i64 d, .int .i64 (7 * k - 6), .int .i64 a, .int .i64 0, .int .i64 sv, .string ⟨#[45]⟩]) (by simp [results, Try.results69, go_sem, RITE]) rfl ⟨rfl, (by repeat (first | exact Below.refl _ _ | assumption | apply Below.drew | apply below_drewN | (refine Below.alloc ?_ (by simp; try omega) _) | (refine Below.setCell ?_ (by simp; try omega) _)))⟩
end Go.Proofs.Ytgnodiegippkeaa
