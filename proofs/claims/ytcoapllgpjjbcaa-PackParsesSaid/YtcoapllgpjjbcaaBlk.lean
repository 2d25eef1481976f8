/- Blocks that are known whole, and rows that the call owns: what is kept of them over calls, stores and appends. -/
import Derived.Test.YtcoapllgpjjbcaaOwnSl
import Derived.Test.YtcoapllgpjjbcaaBoxes
import Derived.OneCell
import Derived.OwnWalk
import Derived.KernelRfl
namespace Go.Proofs.Ytcoapllgpjjbcaa
open Go.RowKit
set_option linter.unusedVariables false
/-- block g is known whole, none of it frozen -/
def Blk (w : World) (g : Nat) (t : TypeId) (cs : Array Value) : Prop := w.heap[g]? = some (.cells cs t (0, 0))
section
variable {w W W2 : World} {g g' : Nat} {t t' : TypeId} {cs cs' : Array Value}
theorem Blk.lt (h : Blk w g t cs) : g < w.heap.size := lt_of_block h
theorem Blk.cell (h : Blk w g t cs) (i : Nat) : w.cell? ⟨g, i, none⟩ = cs[i]? := cell_of_row w g i cs t _ h
theorem Blk.frz (h : Blk w g t cs) (i : Nat) : w.frozen? ⟨g, i, none⟩ = false := frozen_of_row w g i cs t h
theorem Blk.bx (h : Blk w g t cs) : Bx g w cs := ⟨h.cell, h.frz, h.lt⟩
theorem Blk.new (w : World) (cs : Array Value) (t : TypeId) : Blk (w.alloc (.cells cs t)) w.heap.size t cs := heap_alloc_new _ _
theorem Blk.new' (w : World) (cs : Array Value) (t : TypeId) {n : Nat} (h : n = w.heap.size) : Blk (w.alloc (.cells cs t)) n t cs := by subst h; exact Blk.new w cs t
theorem Blk.below {B : Nat} (h : Blk W g t cs) (hb : Below B W W2) (hg : g < B) : Blk W2 g t cs := (hb.block g hg).trans h
theorem Blk.step (h : Blk W g t cs) (hb : Below W.heap.size W W2) : Blk W2 g t cs := h.below hb h.lt
theorem Blk.alloc (h : Blk W g t cs) (o : Obj) : Blk (W.alloc o) g t cs := h.step ((Below.refl _ _).alloc (Nat.le_refl _) _)
theorem Blk.drew (h : Blk W g t cs) : Blk W.drew g t cs := h
theorem Blk.drewN (h : Blk W g t cs) (n : Nat) : Blk (W.drewN n) g t cs := h
theorem Blk.far (h : Blk W g t cs) {a : Addr} (hne : g ≠ a.block) (v : Value) : Blk (W.setCell a v) g t cs := (Below.heap_setCell _ _ _ _ hne).trans h
theorem Blk.grown {row : Option Nat} (h : Blk W g t cs) (hg : W.grownBy W2 row) (hr : row ≠ some g) : Blk W2 g t cs := (hg.block g h.lt (Ne.symm hr)).trans h
theorem Blk.grown' {row : Option Nat} (hg : W.grownBy W2 row) (h : Blk W g t cs) (hr : row ≠ some g) : Blk W2 g t cs := h.grown hg hr
theorem Blk.set (h : Blk W g t cs) (i : Nat) (v : Value) : Blk (W.setCell ⟨g, i, none⟩ v) g t (cs.setIfInBounds i v) := by
  have hlt := h.lt
  have h' : W.heap[g] = .cells cs t (0, 0) := by simpa [Blk, Array.getElem?_eq_getElem hlt] using h
  show (W.heap.modify g _)[g]? = _
  rw [Array.getElem?_eq_getElem (by simpa using hlt), Array.getElem_modify_self, h']
  rfl
theorem Blk.ne (h : Blk W g t cs) (h' : Blk W g' t' cs') (hne : t ≠ t') : g ≠ g' := by
  rintro rfl
  have e : some (Obj.cells cs t (0, 0)) = some (Obj.cells cs' t' (0, 0)) := (show W.heap[g]? = _ from h).symm.trans h'
  simp only [Option.some.injEq, Obj.cells.injEq] at e
  exact hne e.2.1
theorem Blk.own_ne {base e size n : Nat} {v : Value} {xs : List Value} (h : Blk W g t cs) (ho : W.ownsRow base e size v n xs) (hne : t ≠ e) : v.ownBlock ≠ some g := by
  rcases ho.2 with ⟨rfl, _⟩ | ⟨k, cap, cur, rfl, _, hk, _⟩
  · simp [Value.ownBlock]
  · intro e1
    obtain rfl : k = g := by simpa [Value.ownBlock] using e1
    have e2 := hk.symm.trans h
    simp only [Option.some.injEq, Obj.cells.injEq] at e2
    exact hne e2.2.1.symm
end
section
variable {W W2 : World} {base base' e e' size size' n n' : Nat} {v v' : Value} {xs xs' : List Value}
theorem own_ne (h : W.ownsRow base e size v n xs) (h' : W.ownsRow base' e' size' v' n' xs') (hne : e ≠ e') : v.ownBlock = none ∨ v.ownBlock ≠ v'.ownBlock := by
  rcases h.2 with ⟨rfl, _⟩ | ⟨g, cap, cur, rfl, _, hg, _⟩
  · exact Or.inl rfl
  · refine Or.inr (fun e1 => ?_)
    exact Blk.own_ne (show Blk W g e cur from hg) h' hne e1.symm
theorem own_step (h : W.ownsRow base e size v n xs) (hb : Below W.heap.size W W2) : W2.ownsRow base e size v n xs :=
  ⟨h.1, h.2.imp id (fun ⟨g, cap, cur, a1, a2, a3, a4⟩ => ⟨g, cap, cur, a1, a2, (hb.block g (lt_of_block a3)).trans a3, a4⟩)⟩
/-- an owned row as a slice whose cells are known -/
theorem own_at {xss : List (List Value)} (h : W.ownsRow base e size v xss.length xss.flatten) (hx : ∀ xs ∈ xss, xs.length = size) :
    ∃ A cap, v = .slice A xss.length cap ∧ xss.length ≤ cap ∧ cap ≤ maxLen ∧ SlAt W W.heap.size size A xss := by
  have h0 := h
  rcases h.2 with ⟨rfl, hn⟩ | ⟨g, cap, cur, rfl, _, hg, h1, h2, _⟩
  · have e0 : xss = [] := List.length_eq_zero_iff.1 hn
    subst e0
    exact ⟨none, 0, rfl, by simp, by unfold maxLen; omega, SlAt.none_ _ _ _ _⟩
  · exact ⟨_, cap, rfl, h1, h2, own_sl rfl h0 hx (lt_of_block hg)⟩
end
theorem cells3 {W : World} {g : Nat} {x y z u0 u1 u2 : Value} (h0 : W.cell? ⟨g, 0, none⟩ = some u0) (h1 : W.cell? ⟨g, 1, none⟩ = some u1) (h2 : W.cell? ⟨g, 2, none⟩ = some u2) :
    (((W.setCell ⟨g, 0, none⟩ x).setCell ⟨g, 1, none⟩ y).setCell ⟨g, 2, none⟩ z).cell? ⟨g, 0, none⟩ = some x ∧ (((W.setCell ⟨g, 0, none⟩ x).setCell ⟨g, 1, none⟩ y).setCell ⟨g, 2, none⟩ z).cell? ⟨g, 1, none⟩ = some y ∧
      (((W.setCell ⟨g, 0, none⟩ x).setCell ⟨g, 1, none⟩ y).setCell ⟨g, 2, none⟩ z).cell? ⟨g, 2, none⟩ = some z := by
  have n01 : (⟨g, 0, none⟩ : Addr) ≠ ⟨g, 1, none⟩ := by simp
  have n02 : (⟨g, 0, none⟩ : Addr) ≠ ⟨g, 2, none⟩ := by simp
  have n12 : (⟨g, 1, none⟩ : Addr) ≠ ⟨g, 2, none⟩ := by simp
  refine ⟨?_, ?_, ?_⟩
  · rw [World.cell?_setCell_other _ _ _ _ n02.symm, World.cell?_setCell_other _ _ _ _ n01.symm, World.cell?_setCell_same _ _ _ h0]
  · rw [World.cell?_setCell_other _ _ _ _ n12.symm]
    exact World.cell?_setCell_same _ _ _ ((World.cell?_setCell_other _ _ _ _ n01).trans h1)
  · exact World.cell?_setCell_same _ _ _ ((World.cell?_setCell_other _ _ _ _ n12).trans ((World.cell?_setCell_other _ _ _ _ n02).trans h2))
theorem below3 {w W : World} {b3 : Nat} {x y z : Value} (h : Below w.heap.size w W) (hb : w.heap.size ≤ b3) : Below w.heap.size w (((W.setCell ⟨b3, 0, none⟩ x).setCell ⟨b3, 1, none⟩ y).setCell ⟨b3, 2, none⟩ z) :=
  Below.setCell (Below.setCell (Below.setCell h (p := ⟨b3, 0, none⟩) hb x) (p := ⟨b3, 1, none⟩) hb y) (p := ⟨b3, 2, none⟩) hb z
theorem below_app {W W2 : World} {base : Nat} (hb : base ≤ W.heap.size) {v : Value} {e size n : Nat} {xs : List Value} (ho : W.ownsRow base e size v n xs) (hg : W.grownBy W2 v.ownBlock) : Below base W W2 :=
  (Below.refl _ _).grown hg hb (fun k hk => (ho.lt k hk).1)
end Go.Proofs.Ytcoapllgpjjbcaa
