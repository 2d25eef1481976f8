/- Two boxes kept over a call: for regions that draw their order. -/
import Derived.Test.YtcoapllgpjjbcaaBoxes
namespace Go.Proofs.Ytcoapllgpjjbcaa
open Go.RowKit
set_option linter.unusedVariables false
theorem keepS2 {w W W2 : World} {g1 g2 : Nat} {c1 c2 : Array Value} (h : (∀ i, W.cell? ⟨g1, i, none⟩ = c1[i]?) ∧ (∀ i, W.cell? ⟨g2, i, none⟩ = c2[i]?) ∧ g1 < W.heap.size ∧ g2 < W.heap.size ∧ Below w.heap.size w W) (h2 : Below W.heap.size W W2) :
    (∀ i, W2.cell? ⟨g1, i, none⟩ = c1[i]?) ∧ (∀ i, W2.cell? ⟨g2, i, none⟩ = c2[i]?) ∧ g1 < W2.heap.size ∧ g2 < W2.heap.size ∧ Below w.heap.size w W2 :=
  ⟨fun i => (h2.cell h.2.2.1).trans (h.1 i), fun i => (h2.cell h.2.2.2.1).trans (h.2.1 i), Nat.lt_of_lt_of_le h.2.2.1 h2.size, Nat.lt_of_lt_of_le h.2.2.2.1 h2.size, h.2.2.2.2.trans (h2.mono h.2.2.2.2.size)⟩
end Go.Proofs.Ytcoapllgpjjbcaa
