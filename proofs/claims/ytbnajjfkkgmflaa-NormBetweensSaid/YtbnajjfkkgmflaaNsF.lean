/- Walk of the reference's Same. -/
import Derived.Test.YtbnajjfkkgmflaaNsE
import Derived.Test.YtbnajjfkkgmflaaNsP
import Derived.Test.YtbnajjfkkgmflaaBase
import Derived.Deep.RegionHeld3
import Derived.Deep.DrawnRows
import Derived.Test.YtbnajjfkkgmflaaNmI
import Derived.Test.YtbnajjfkkgmflaaTabOfR
import Derived.RegionTactic
import Derived.Test.YtbnajjfkkgmflaaNsA
import Derived.Test.YtbnajjfkkgmflaaEqI
namespace Go.Proofs.Ytbnajjfkkgmflaa
open Go.RowKit
set_option linter.unusedVariables false
attribute [local go_sem ↓] Go.wp_at_zero Go.wp_at_succ
theorem keepS2_base {w W W2 : World} {B g1 g2 : Nat} {c1 c2 : Array Value} (h : (∀ i, W.cell? ⟨g1, i, none⟩ = c1[i]?) ∧ (∀ i, W.cell? ⟨g2, i, none⟩ = c2[i]?) ∧ g1 < W.heap.size ∧ g2 < W.heap.size ∧ Below w.heap.size w W) (h2 : Below B W W2) (hg1 : g1 < B) (hg2 : g2 < B) (hB : w.heap.size ≤ B) :
    (∀ i, W2.cell? ⟨g1, i, none⟩ = c1[i]?) ∧ (∀ i, W2.cell? ⟨g2, i, none⟩ = c2[i]?) ∧ g1 < W2.heap.size ∧ g2 < W2.heap.size ∧ Below w.heap.size w W2 :=
  ⟨fun i => (h2.cell hg1).trans (h.1 i), fun i => (h2.cell hg2).trans (h.2.1 i), Nat.lt_of_lt_of_le h.2.2.1 h2.size, Nat.lt_of_lt_of_le h.2.2.2.1 h2.size, h.2.2.2.2.trans (h2.mono hB)⟩
def sameR (ts : List Ty) (first : Int) (cs : List Ch) (ts2 : List Ty) (first2 : Int) (cs2 : List Ch) : Bool := ((-1125899906842624 : Int) :: ((cs ++ cs2).map (·.1))).all fun t => decide (tabOf ts first cs t = tabOf ts2 first2 cs2 t)
theorem sameR_eq {ts ts2 : List Ty} {f f2 : Int} {cs cs2 : List Ch} (h1 : TabOk ts f cs) (h2 : TabOk ts2 f2 cs2) : sameB (normSt ts f cs) (normSt ts2 f2 cs2) = sameR ts f cs ts2 f2 cs2 := by
  rw [Bool.eq_iff_iff, same_iff h1 h2, sameR, List.all_eq_true]
  simp only [decide_eq_true_eq]
end Go.Proofs.Ytbnajjfkkgmflaa
