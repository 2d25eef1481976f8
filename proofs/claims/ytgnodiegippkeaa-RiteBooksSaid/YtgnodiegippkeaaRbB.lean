/- What a walk of Book keeps: the boxes of the argument and of the result. -/
import Derived.Test.YtgnodiegippkeaaRbP
import Derived.Test.YtgnodiegippkeaaBoxes
namespace Go.Proofs.Ytgnodiegippkeaa
open Go.RowKit
set_option linter.unusedVariables false
def R4 (w wr : World) (cs : Array Value) (fr to : Int) : Prop :=
  Bx w.heap.size wr cs ∧ Bx (w.heap.size + 1) wr #[.int .i64 fr] ∧ Bx (w.heap.size + 1 + 1) wr #[.int .i64 to] ∧ Bx (w.heap.size + 1 + 1 + 1) wr #[.slice none 0 0, .slice none 0 0, .slice none 0 0] ∧ Below w.heap.size w wr
theorem R4.step {w W W2 : World} {cs : Array Value} {fr to : Int} (h : R4 w W cs fr to) (h2 : Below W.heap.size W W2) : R4 w W2 cs fr to :=
  ⟨h.1.step h2, h.2.1.step h2, h.2.2.1.step h2, h.2.2.2.1.step h2, h.2.2.2.2.trans (h2.mono h.2.2.2.2.size)⟩
theorem R4.start (w : World) (cs : Array Value) (fr to : Int) (t1 t2 t3 : TypeId) : R4 w ((((w.alloc (.cells cs t1)).alloc (.cells #[.int .i64 fr] t2)).alloc (.cells #[.int .i64 to] t2)).alloc (.cells #[.slice none 0 0, .slice none 0 0, .slice none 0 0] t3)) cs fr to := by
  have e1 := Bx.new w cs t1
  have e2 := Bx.new' (w.alloc (.cells cs t1)) #[.int .i64 fr] t2 (n := w.heap.size + 1) (by rw [size_alloc])
  have e3 := Bx.new' ((w.alloc (.cells cs t1)).alloc (.cells #[.int .i64 fr] t2)) #[.int .i64 to] t2 (n := w.heap.size + 1 + 1) (by rw [size_alloc, size_alloc])
  have e4 := Bx.new' (((w.alloc (.cells cs t1)).alloc (.cells #[.int .i64 fr] t2)).alloc (.cells #[.int .i64 to] t2)) #[.slice none 0 0, .slice none 0 0, .slice none 0 0] t3 (n := w.heap.size + 1 + 1 + 1) (by rw [size_alloc, size_alloc, size_alloc])
  exact ⟨((e1.alloc _).alloc _).alloc _, (e2.alloc _).alloc _, e3.alloc _, e4, ((((Below.refl _ _).alloc (Nat.le_refl _) _).alloc (by rw [size_alloc]; omega) _).alloc (by rw [size_alloc, size_alloc]; omega) _).alloc (by rw [size_alloc, size_alloc, size_alloc]; omega) _⟩
def R2 (w wr : World) (cs : Array Value) : Prop := Bx w.heap.size wr cs ∧ Bx (w.heap.size + 1) wr #[.slice none 0 0, .slice none 0 0, .slice none 0 0] ∧ Below w.heap.size w wr
theorem R2.step {w W W2 : World} {cs : Array Value} (h : R2 w W cs) (h2 : Below W.heap.size W W2) : R2 w W2 cs := ⟨h.1.step h2, h.2.1.step h2, h.2.2.trans (h2.mono h.2.2.size)⟩
theorem R2.start (w : World) (cs : Array Value) (t1 t2 : TypeId) : R2 w ((w.alloc (.cells cs t1)).alloc (.cells #[.slice none 0 0, .slice none 0 0, .slice none 0 0] t2)) cs := by
  have e1 := Bx.new w cs t1
  have e2 := Bx.new' (w.alloc (.cells cs t1)) #[.slice none 0 0, .slice none 0 0, .slice none 0 0] t2 (n := w.heap.size + 1) (by rw [size_alloc])
  exact ⟨e1.alloc _, e2, ((Below.refl _ _).alloc (Nat.le_refl _) _).alloc (by rw [size_alloc]; omega) _⟩
end Go.Proofs.Ytgnodiegippkeaa
