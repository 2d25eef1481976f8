/- What a walk of rite.Book keeps around its append. -/
import Derived.Test.YtgnodiegippkeaaRbD
import Derived.Test.YtgnodiegippkeaaRtA
import Derived.KernelRfl
import Derived.OwnWalk
import Derived.Deep.RegionHeld3
namespace Go.Proofs.Ytgnodiegippkeaa
open Go.RowKit
set_option linter.unusedVariables false
theorem info_Rule : (Try.prog.info? 108).map (fun i => (i.zero, i.size, i.bytes)) = some (some (.agg #[.string ⟨#[]⟩, .int .i64 0, .int .i64 0, .int .i64 0, .int .i64 0, .int .i64 0, .int .i64 0, .int .i64 0, .int .i64 0, .int .i64 0, .string ⟨#[]⟩]), 11, 104) := by kernel_rfl
theorem own_below {W W2 : World} {base e size : Nat} {v : Value} {n : Nat} {xs : List Value} (h : W.ownsRow base e size v n xs) (hb : Below W.heap.size W W2) : W2.ownsRow base e size v n xs := by
  refine h.kept (row := none) ⟨hb.os, hb.tape, hb.output, hb.size, fun k hk _ => hb.block k hk⟩ ?_
  cases hv : v.ownBlock with
  | none => exact Or.inl rfl
  | some k => exact Or.inr (by simp)
theorem below_grown {w W W2 : World} {row : Option Nat} (h : Below w.heap.size w W) (hg : W.grownBy W2 row) (hr : ∀ k, row = some k → w.heap.size ≤ k) : Below w.heap.size w W2 :=
  ⟨hg.os.trans h.os, hg.tape.trans h.tape, hg.output.trans h.output, Nat.le_trans h.size hg.size, fun k hk => (hg.block k (Nat.lt_of_lt_of_le hk h.size) (fun e => by have := hr k e.symm; omega)).trans (h.block k hk)⟩
theorem Bx.grown {g : Nat} {W W2 : World} {cs : Array Value} {row : Option Nat} (h : Bx g W cs) (hg : W.grownBy W2 row) (hr : ∀ k, row = some k → k ≠ g) : Bx g W2 cs :=
  have hn : some g ≠ row := fun e => hr g e.symm rfl
  ⟨fun i => (hg.cell_far ⟨g, i, none⟩ h.2.2 hn).trans (h.1 i), fun i => (hg.frozen_far ⟨g, i, none⟩ h.2.2 hn).trans (h.2.1 i), Nat.lt_of_lt_of_le h.2.2 hg.size⟩
/-- the boxes of the argument, the result, the era, the list of both rites -/
def BQ (w W : World) (cs er lit : Array Value) (x : Nat) : Prop :=
  w.heap.size + 1 < x ∧ Bx w.heap.size W cs ∧ Bx (w.heap.size + 1) W #[.slice none 0 0, .slice none 0 0, .slice none 0 0] ∧ Bx x W er ∧ Bx (x + 1) W lit ∧ Below w.heap.size w W
section
variable {w W W2 : World} {cs er lit rc : Array Value} {x r : Nat}
theorem BQ.step (h : BQ w W cs er lit x) (h2 : Below W.heap.size W W2) : BQ w W2 cs er lit x := by
  obtain ⟨a, b, c, d, e, f⟩ := h
  exact ⟨a, b.step h2, c.step h2, d.step h2, e.step h2, f.trans (h2.mono f.size)⟩
theorem BQ.alloc (h : BQ w W cs er lit x) (o : Obj) : BQ w (W.alloc o) cs er lit x := h.step ((Below.refl _ _).alloc (Nat.le_refl _) _)
theorem BQ.grown {row : Option Nat} (h : BQ w W cs er lit x) (hg : W.grownBy W2 row) (hr : ∀ k, row = some k → x + 2 ≤ k) : BQ w W2 cs er lit x := by
  obtain ⟨a, b, c, d, e, f⟩ := h
  refine ⟨a, b.grown hg fun k hk => ?_, c.grown hg fun k hk => ?_, d.grown hg fun k hk => ?_, e.grown hg fun k hk => ?_, below_grown f hg fun k hk => ?_⟩ <;> (have := hr k hk; omega)
/-- the same with the box of the round's rite, its cells to the front -/
def RQ (w W : World) (cs er lit rc : Array Value) (x r : Nat) : Prop :=
  (∀ i, W.cell? ⟨w.heap.size, i, none⟩ = cs[i]?) ∧ (∀ i, W.cell? ⟨x, i, none⟩ = er[i]?) ∧ (∀ i, W.cell? ⟨r, i, none⟩ = rc[i]?) ∧ BQ w W cs er lit x ∧ Bx r W rc
theorem RQ.mk (h : BQ w W cs er lit x) (hr : Bx r W rc) : RQ w W cs er lit rc x r := ⟨h.2.1.1, h.2.2.2.1.1, hr.1, h, hr⟩
theorem RQ.step (h : RQ w W cs er lit rc x r) (h2 : Below W.heap.size W W2) : RQ w W2 cs er lit rc x r := RQ.mk (h.2.2.2.1.step h2) (h.2.2.2.2.step h2)
theorem RQ.alloc (h : RQ w W cs er lit rc x r) (o : Obj) : RQ w (W.alloc o) cs er lit rc x r := h.step ((Below.refl _ _).alloc (Nat.le_refl _) _)
theorem RQ.drew (h : RQ w W cs er lit rc x r) : RQ w W.drew cs er lit rc x r := h.step (Below.refl _ _).drew
theorem RQ.grown {row : Option Nat} (h : RQ w W cs er lit rc x r) (hg : W.grownBy W2 row) (hr : ∀ k, row = some k → x + 2 ≤ k ∧ k ≠ r) : RQ w W2 cs er lit rc x r :=
  RQ.mk (h.2.2.2.1.grown hg fun k hk => (hr k hk).1) (h.2.2.2.2.grown hg fun k hk => (hr k hk).2)
end
end Go.Proofs.Ytgnodiegippkeaa
