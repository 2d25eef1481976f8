/- What a walk of the reference's RiteBook keeps around its last statement. -/
import Derived.Test.YtgnodiegippkeaaRbQ
import Derived.Test.YtgnodiegippkeaaRbO
namespace Go.Proofs.Ytgnodiegippkeaa
open Go.RowKit
set_option linter.unusedVariables false
/-- what a cell holds, as a letter -/
def cellOf (W : World) (g i : Nat) : Value := (W.cell? ⟨g, i, none⟩).getD (.int .i64 0)
theorem cellOf_eq {W : World} {g i : Nat} {v : Value} (h : W.cell? ⟨g, i, none⟩ = some v) : W.cell? ⟨g, i, none⟩ = some (cellOf W g i) := by
  rw [cellOf, h]; rfl
/-- a block of three cells that may be stored into -/
def Sx (g : Nat) (W : World) : Prop := (W.cell? ⟨g, 0, none⟩ = some (cellOf W g 0) ∧ W.cell? ⟨g, 1, none⟩ = some (cellOf W g 1) ∧ W.cell? ⟨g, 2, none⟩ = some (cellOf W g 2)) ∧ (∀ i, W.frozen? ⟨g, i, none⟩ = false) ∧ g < W.heap.size
theorem Sx.of {g : Nat} {W : World} {x y z : Value} (h : Bx g W #[x, y, z]) : Sx g W := ⟨⟨cellOf_eq (h.1 0), cellOf_eq (h.1 1), cellOf_eq (h.1 2)⟩, h.2.1, h.2.2⟩
theorem Sx.step {g : Nat} {W W2 : World} (h : Sx g W) (h2 : Below W.heap.size W W2) : Sx g W2 :=
  ⟨⟨cellOf_eq ((h2.cell h.2.2).trans h.1.1), cellOf_eq ((h2.cell h.2.2).trans h.1.2.1), cellOf_eq ((h2.cell h.2.2).trans h.1.2.2)⟩, fun i => (h2.frozen h.2.2).trans (h.2.1 i), Nat.lt_of_lt_of_le h.2.2 h2.size⟩
theorem Sx.set3 {g : Nat} {W : World} (x y z : Value) (h : Sx g W) : Sx g (((W.setCell ⟨g, 0, none⟩ x).setCell ⟨g, 1, none⟩ y).setCell ⟨g, 2, none⟩ z) := by
  obtain ⟨q0, q1, q2⟩ := set3' (W := W) (g := g) (x := x) (y := y) (z := z) h.1.1 h.1.2.1 h.1.2.2
  exact ⟨⟨cellOf_eq q0, cellOf_eq q1, cellOf_eq q2⟩, fun i => by simpa using h.2.1 i, by simpa using h.2.2⟩
def V5 (w W : World) (cs : Array Value) (fr to : Int) : Prop :=
  Bx w.heap.size W cs ∧ Bx (w.heap.size + 1) W #[.int .i64 fr] ∧ Bx (w.heap.size + 1 + 1) W #[.int .i64 to] ∧ Sx (w.heap.size + 1 + 1 + 1) W ∧ Below w.heap.size w W
abbrev VQ (w W : World) (cs : Array Value) (fr to : Int) : Prop :=
  (∀ i, W.cell? ⟨w.heap.size, i, none⟩ = cs[i]?) ∧ W.cell? ⟨w.heap.size + 1 + 1 + 1, 0, none⟩ = some (cellOf W (w.heap.size + 1 + 1 + 1) 0) ∧ W.cell? ⟨w.heap.size + 1 + 1 + 1, 1, none⟩ = some (cellOf W (w.heap.size + 1 + 1 + 1) 1) ∧
    W.cell? ⟨w.heap.size + 1 + 1 + 1, 2, none⟩ = some (cellOf W (w.heap.size + 1 + 1 + 1) 2) ∧ (∀ i, W.frozen? ⟨w.heap.size + 1 + 1 + 1, i, none⟩ = false) ∧ V5 w W cs fr to
section
variable {w W W2 : World} {cs : Array Value} {fr to : Int}
theorem VQ.mk (h : V5 w W cs fr to) : VQ w W cs fr to := ⟨h.1.1, h.2.2.2.1.1.1, h.2.2.2.1.1.2.1, h.2.2.2.1.1.2.2, h.2.2.2.1.2.1, h⟩
theorem VQ.of (h : R4 w W cs fr to) : VQ w W cs fr to := VQ.mk ⟨h.1, h.2.1, h.2.2.1, Sx.of h.2.2.2.1, h.2.2.2.2⟩
theorem VQ.v (h : VQ w W cs fr to) : V5 w W cs fr to := h.2.2.2.2.2
theorem VQ.step (h : VQ w W cs fr to) (h2 : Below W.heap.size W W2) : VQ w W2 cs fr to := by
  obtain ⟨a, b, c, d, e⟩ := h.v
  exact VQ.mk ⟨a.step h2, b.step h2, c.step h2, d.step h2, e.trans (h2.mono e.size)⟩
theorem VQ.alloc (h : VQ w W cs fr to) (o : Obj) : VQ w (W.alloc o) cs fr to := h.step ((Below.refl _ _).alloc (Nat.le_refl _) _)
theorem VQ.drew (h : VQ w W cs fr to) : VQ w W.drew cs fr to := h.step (Below.refl _ _).drew
theorem VQ.set3 (h : VQ w W cs fr to) (x y z : Value) : VQ w (((W.setCell ⟨w.heap.size + 1 + 1 + 1, 0, none⟩ x).setCell ⟨w.heap.size + 1 + 1 + 1, 1, none⟩ y).setCell ⟨w.heap.size + 1 + 1 + 1, 2, none⟩ z) cs fr to := by
  obtain ⟨a, b, c, d, e⟩ := h.v
  exact VQ.mk ⟨((a.far (by omega)).far (by omega)).far (by omega), ((b.far (by omega)).far (by omega)).far (by omega), ((c.far (by omega)).far (by omega)).far (by omega), d.set3 x y z, below_set3 e (by omega)⟩
theorem VQ.f1 (h : VQ w W cs fr to) : W.cell? ⟨w.heap.size + 1, 0, none⟩ = some (.int .i64 fr) := h.v.2.1.1 0
theorem VQ.f2 (h : VQ w W cs fr to) : W.cell? ⟨w.heap.size + 1 + 1, 0, none⟩ = some (.int .i64 to) := h.v.2.2.1.1 0
theorem VQ.l1 (h : VQ w W cs fr to) : w.heap.size + 1 < W.heap.size := h.v.2.1.2.2
theorem VQ.l2 (h : VQ w W cs fr to) : w.heap.size + 1 + 1 < W.heap.size := h.v.2.2.1.2.2
end
end Go.Proofs.Ytgnodiegippkeaa
