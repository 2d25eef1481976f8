/- Several new blocks, one behind the other: what each holds. -/
import Derived.Test.YtcoapllgpjjbcaaKit
namespace Go.Proofs.Ytcoapllgpjjbcaa
open Go.RowKit
set_option linter.unusedVariables false
theorem cell_new (w : World) (cs : Array Value) (t : TypeId) (n i : Nat) (hn : n = w.heap.size) : (w.alloc (.cells cs t)).cell? ⟨n, i, none⟩ = cs[i]? := by subst hn; simp
theorem cell_old (w : World) (o : Obj) (a : Addr) (h : a.block < w.heap.size) : (w.alloc o).cell? a = w.cell? a := World.cell?_alloc_lt w o a h
theorem frozen_new (w : World) (cs : Array Value) (t : TypeId) (n i : Nat) (hn : n = w.heap.size) : (w.alloc (.cells cs t)).frozen? ⟨n, i, none⟩ = false := by subst hn; simp
theorem frozen_old (w : World) (o : Obj) (a : Addr) (h : a.block < w.heap.size) : (w.alloc o).frozen? a = w.frozen? a := World.frozen?_alloc_old _ _ _ (by omega)
theorem size_alloc (w : World) (o : Obj) : (w.alloc o).heap.size = w.heap.size + 1 := by simp
/-- two boxes -/
theorem boxes2 (w : World) (c1 c2 : Array Value) (t1 t2 : TypeId) :
    (∀ i, ((w.alloc (.cells c1 t1)).alloc (.cells c2 t2)).cell? ⟨w.heap.size, i, none⟩ = c1[i]?) ∧ (∀ i, ((w.alloc (.cells c1 t1)).alloc (.cells c2 t2)).cell? ⟨w.heap.size + 1, i, none⟩ = c2[i]?) ∧
    (∀ i, ((w.alloc (.cells c1 t1)).alloc (.cells c2 t2)).frozen? ⟨w.heap.size + 1, i, none⟩ = false) ∧ ((w.alloc (.cells c1 t1)).alloc (.cells c2 t2)).heap.size = w.heap.size + 1 + 1 ∧ Below w.heap.size w ((w.alloc (.cells c1 t1)).alloc (.cells c2 t2)) := by
  refine ⟨fun i => ?_, fun i => ?_, fun i => ?_, by rw [size_alloc, size_alloc], ?_⟩
  · rw [cell_old _ _ _ (by rw [size_alloc]; exact Nat.lt_succ_self _), cell_new _ _ _ _ _ rfl]
  · rw [cell_new _ _ _ _ _ (by rw [size_alloc])]
  · rw [frozen_new _ _ _ _ _ (by rw [size_alloc])]
  · exact ((Below.refl _ _).alloc (Nat.le_refl _) _).alloc (by rw [size_alloc]; omega) _
/-- three boxes -/
theorem boxes3 (w : World) (c1 c2 c3 : Array Value) (t1 t2 t3 : TypeId) :
    (∀ i, (((w.alloc (.cells c1 t1)).alloc (.cells c2 t2)).alloc (.cells c3 t3)).cell? ⟨w.heap.size, i, none⟩ = c1[i]?) ∧ (∀ i, (((w.alloc (.cells c1 t1)).alloc (.cells c2 t2)).alloc (.cells c3 t3)).cell? ⟨w.heap.size + 1, i, none⟩ = c2[i]?) ∧
    (∀ i, (((w.alloc (.cells c1 t1)).alloc (.cells c2 t2)).alloc (.cells c3 t3)).cell? ⟨w.heap.size + 1 + 1, i, none⟩ = c3[i]?) ∧ (∀ i, (((w.alloc (.cells c1 t1)).alloc (.cells c2 t2)).alloc (.cells c3 t3)).frozen? ⟨w.heap.size + 1 + 1, i, none⟩ = false) ∧
    (((w.alloc (.cells c1 t1)).alloc (.cells c2 t2)).alloc (.cells c3 t3)).heap.size = w.heap.size + 1 + 1 + 1 ∧ Below w.heap.size w (((w.alloc (.cells c1 t1)).alloc (.cells c2 t2)).alloc (.cells c3 t3)) := by
  obtain ⟨a1, a2, _, a4, a5⟩ := boxes2 w c1 c2 t1 t2
  refine ⟨fun i => ?_, fun i => ?_, fun i => ?_, fun i => ?_, by rw [size_alloc, a4], a5.alloc (by rw [a4]; omega) _⟩
  · rw [cell_old _ _ _ (by rw [a4]; exact Nat.lt_succ_of_lt (Nat.lt_succ_self _)), a1]
  · rw [cell_old _ _ _ (by rw [a4]; exact Nat.lt_succ_self _), a2]
  · rw [cell_new _ _ _ _ _ (by rw [a4])]
  · rw [frozen_new _ _ _ _ _ (by rw [a4])]
theorem far3 {w : World} {g : Nat} {x y z : Value} {a : Addr} (h : g ≠ a.block) : (((w.setCell ⟨g, 0, none⟩ x).setCell ⟨g, 1, none⟩ y).setCell ⟨g, 2, none⟩ z).cell? a = w.cell? a := by
  rw [World.cell?_setCell_other, World.cell?_setCell_other, World.cell?_setCell_other] <;> (intro e; apply h; rw [← e])
/-- block g is a box that holds cs, none of it frozen -/
def Bx (g : Nat) (wr : World) (cs : Array Value) : Prop := (∀ i, wr.cell? ⟨g, i, none⟩ = cs[i]?) ∧ (∀ i, wr.frozen? ⟨g, i, none⟩ = false) ∧ g < wr.heap.size
theorem Bx.step {g : Nat} {W W2 : World} {cs : Array Value} (h : Bx g W cs) (h2 : Below W.heap.size W W2) : Bx g W2 cs :=
  ⟨fun i => (h2.cell h.2.2).trans (h.1 i), fun i => (h2.frozen h.2.2).trans (h.2.1 i), Nat.lt_of_lt_of_le h.2.2 h2.size⟩
theorem Bx.alloc {g : Nat} {W : World} {cs : Array Value} (h : Bx g W cs) (o : Obj) : Bx g (W.alloc o) cs := h.step ((Below.refl _ _).alloc (Nat.le_refl _) _)
theorem Bx.drewN {g : Nat} {W : World} {cs : Array Value} (h : Bx g W cs) (n : Nat) : Bx g (W.drewN n) cs := h.step (below_drewN (Below.refl _ _) n)
theorem Bx.drew {g : Nat} {W : World} {cs : Array Value} (h : Bx g W cs) : Bx g W.drew cs := h.step (Below.refl _ _).drew
theorem Bx.new (w : World) (cs : Array Value) (t : TypeId) : Bx w.heap.size (w.alloc (.cells cs t)) cs := ⟨fun i => cell_new _ _ _ _ _ rfl, fun i => frozen_new _ _ _ _ _ rfl, by rw [size_alloc]; omega⟩
theorem Bx.new' (w : World) (cs : Array Value) (t : TypeId) {n : Nat} (h : n = w.heap.size) : Bx n (w.alloc (.cells cs t)) cs := by subst h; exact Bx.new w cs t
end Go.Proofs.Ytcoapllgpjjbcaa
