/- Slices that came in: what their cells hold. -/
import Derived.Test.YtcoapllgpjjbcaaKit
namespace Go.Proofs.Ytcoapllgpjjbcaa
open Go.RowKit
set_option linter.unusedVariables false
/-- below block B lie the elements xs, size cells each, from A on -/
def SlAt (w : World) (B size : Nat) (A : Option Addr) (xs : List (List Value)) : Prop :=
  0 < xs.length → ∃ b o, A = some ⟨b, o, none⟩ ∧ b < B ∧ ∀ i, i < xs.length → ∀ j, j < size → w.cell? ⟨b, o + i * size + j, none⟩ = (xs.getD i [])[j]?
theorem SlAt.below {w w' : World} {B size : Nat} {A : Option Addr} {xs : List (List Value)} (h : SlAt w B size A xs) (hb : Below B w w') : SlAt w' B size A xs := by
  intro hn
  obtain ⟨b, o, h1, h2, h3⟩ := h hn
  exact ⟨b, o, h1, h2, fun i hi j hj => (hb.cell (by exact h2)).trans (h3 i hi j hj)⟩
theorem SlAt.more {w : World} {B B' size : Nat} {A : Option Addr} {xs : List (List Value)} (h : SlAt w B size A xs) (hb : B ≤ B') : SlAt w B' size A xs := by
  intro hn
  obtain ⟨b, o, h1, h2, h3⟩ := h hn
  exact ⟨b, o, h1, by omega, h3⟩
theorem SlAt.none_ (w : World) (B size : Nat) (A : Option Addr) : SlAt w B size A [] := fun h => absurd h (by simp)
/-- a box at w's end holds cs; below it nothing has turned -/
def TK (w wr : World) (cs : Array Value) : Prop := (∀ i, wr.cell? ⟨w.heap.size, i, none⟩ = cs[i]?) ∧ w.heap.size < wr.heap.size ∧ Below w.heap.size w wr
theorem TK.step {w W W2 : World} {cs : Array Value} (h : TK w W cs) (h2 : Below W.heap.size W W2) : TK w W2 cs := keepS h h2
theorem TK.box (w : World) (cs : Array Value) (t : TypeId) : TK w (w.alloc (.cells cs t)) cs := boxc (Below.refl _ _)
theorem TK.alloc {w W : World} {cs : Array Value} (h : TK w W cs) (o : Obj) : TK w (W.alloc o) cs := h.step ((Below.refl _ _).alloc (Nat.le_refl _) _)
theorem TK.drewN {w W : World} {cs : Array Value} (h : TK w W cs) (n : Nat) : TK w (W.drewN n) cs := h.step (below_drewN (Below.refl _ _) n)
end Go.Proofs.Ytcoapllgpjjbcaa
