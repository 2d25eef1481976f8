/- Small helpers for all walks: endings by their values. -/
import Derived.Test.YtcoapllgpjjbcaaRows
import Derived.WalkKit
import Derived.WalkSpells
import Derived.WalkLawsBesides
import Derived.Lib.Hide
import Derived.Deep.QuietTactic
import Derived.BigQuiet
import Derived.Deep.DeepFit
namespace Go.Proofs.Ytcoapllgpjjbcaa
open Go.RowKit
set_option linter.unusedVariables false
theorem ret_int {k : IntKind} {a b : Int} (h : a = b) : Ending.returned (.int k a) = .returned (.int k b) := by rw [h]
theorem ret_bool {a b : Bool} (h : a = b) : Ending.returned (.bool a) = .returned (.bool b) := by rw [h]
theorem ret_ii {k l : IntKind} {a b c d : Int} (h : a = b) (g : c = d) : Ending.returned (.tuple #[.int k a, .int l c]) = .returned (.tuple #[.int k b, .int l d]) := by rw [h, g]
theorem below_drewN {B : Nat} {a w : World} (h : Below B a w) (n : Nat) : Below B a (w.drewN n) := ⟨h.os, h.tape, h.output, h.size, h.block⟩
theorem box3 {w w1 : World} {a b c : Value} {t : TypeId} (hb : Below (w.alloc (.cells #[a, b, c] t)).heap.size (w.alloc (.cells #[a, b, c] t)) w1) :
    w1.cell? ⟨w.heap.size, 0, none⟩ = some a ∧ w1.cell? ⟨w.heap.size, 1, none⟩ = some b ∧ w1.cell? ⟨w.heap.size, 2, none⟩ = some c ∧ w.heap.size < w1.heap.size ∧ Below w.heap.size w w1 := by
  have hs : (w.alloc (.cells #[a, b, c] t)).heap.size = w.heap.size + 1 := by simp
  refine ⟨?_, ?_, ?_, by have := hb.size; omega, ((Below.refl _ _).alloc (Nat.le_refl _) _).trans (hb.mono (by omega))⟩
  all_goals (rw [hb.cell (by simp)]; simp)
theorem boxc {w w1 : World} {cs : Array Value} {t : TypeId} (hb : Below (w.alloc (.cells cs t)).heap.size (w.alloc (.cells cs t)) w1) :
    (∀ i, w1.cell? ⟨w.heap.size, i, none⟩ = cs[i]?) ∧ w.heap.size < w1.heap.size ∧ Below w.heap.size w w1 := by
  have hs : (w.alloc (.cells cs t)).heap.size = w.heap.size + 1 := by simp
  refine ⟨fun i => ?_, by have := hb.size; omega, ((Below.refl _ _).alloc (Nat.le_refl _) _).trans (hb.mono (by omega))⟩
  rw [hb.cell (by simp)]; simp
theorem keepc {w W W2 : World} {cs : Array Value} (hcs : ∀ i, W.cell? ⟨w.heap.size, i, none⟩ = cs[i]?) (hz : w.heap.size < W.heap.size) (hb : Below w.heap.size w W) (h2 : Below W.heap.size W W2) :
    (∀ i, W2.cell? ⟨w.heap.size, i, none⟩ = cs[i]?) ∧ w.heap.size < W2.heap.size ∧ Below w.heap.size w W2 :=
  ⟨fun i => (h2.cell hz).trans (hcs i), Nat.lt_of_lt_of_le hz h2.size, hb.trans (h2.mono (Nat.le_of_lt hz))⟩
theorem keepS {w W W2 : World} {cs : Array Value} (h : (∀ i, W.cell? ⟨w.heap.size, i, none⟩ = cs[i]?) ∧ w.heap.size < W.heap.size ∧ Below w.heap.size w W) (h2 : Below W.heap.size W W2) :
    (∀ i, W2.cell? ⟨w.heap.size, i, none⟩ = cs[i]?) ∧ w.heap.size < W2.heap.size ∧ Below w.heap.size w W2 := keepc h.1 h.2.1 h.2.2 h2
end Go.Proofs.Ytcoapllgpjjbcaa
