/- What a walk of At keeps: the argument's box, the result's box. -/
import Derived.Test.YtelgehpfjpbboaaDoorBoxes
import Derived.Test.YtelgehpfjpbboaaDoorStA
namespace Go.Proofs.YtelgehpfjpbboaaDoor
open Go.RowKit
set_option linter.unusedVariables false
def RS (w wr : World) (cs : Array Value) : Prop := Bx w.heap.size wr cs ∧ Bx (w.heap.size + 1) wr #[.int .i64 0, .bool false, .string ⟨#[]⟩] ∧ Below w.heap.size w wr
theorem RS.step {w W W2 : World} {cs : Array Value} (h : RS w W cs) (h2 : Below W.heap.size W W2) : RS w W2 cs :=
  ⟨h.1.step h2, h.2.1.step h2, h.2.2.trans (h2.mono h.2.2.size)⟩
theorem RS.alloc {w W : World} {cs : Array Value} (h : RS w W cs) (o : Obj) : RS w (W.alloc o) cs := h.step ((Below.refl _ _).alloc (Nat.le_refl _) _)
theorem RS.start (w : World) (cs : Array Value) (t1 t2 : TypeId) : RS w ((w.alloc (.cells cs t1)).alloc (.cells #[.int .i64 0, .bool false, .string ⟨#[]⟩] t2)) cs := by
  obtain ⟨q1, q2, q4, q5, hb0⟩ := boxes2 w cs #[.int .i64 0, .bool false, .string ⟨#[]⟩] t1 t2
  exact ⟨⟨q1, fun i => by rw [frozen_old _ _ _ (by rw [size_alloc]; exact Nat.lt_succ_self _), frozen_new _ _ _ _ _ rfl], by rw [q5]; omega⟩, ⟨q2, q4, by rw [q5]; omega⟩, hb0⟩
theorem lit_step {g : Nat} {a b : Value} {W W2 : World} (h : W.cell? ⟨g, 0, none⟩ = some a ∧ W.cell? ⟨g, 1, none⟩ = some b ∧ g < W.heap.size) (h2 : Below W.heap.size W W2) : W2.cell? ⟨g, 0, none⟩ = some a ∧ W2.cell? ⟨g, 1, none⟩ = some b ∧ g < W2.heap.size :=
  ⟨(h2.cell h.2.2).trans h.1, (h2.cell h.2.2).trans h.2.1, Nat.lt_of_lt_of_le h.2.2 h2.size⟩
/-- a time that is one: its text, no error -/
theorem st_calls_ok (t : Int) (h1 : -9223372036854775808 ≤ t) (h2 : t ≤ 9223372036854775807) (h : dateOk (t / 86400) = true) (w : World) (HI : ∀ y, y < 10000 → ItoaIn w y) :
    Calls Tryd.prog 13 #[.int .i64 t] w fun e w' => e = .returned (.tuple #[.string (stV t), .int .i64 0]) ∧ Below w.heap.size w w' := by
  have := k_Stamp t h1 h2 w HI
  rw [(st_ok h).2] at this; exact this
end Go.Proofs.YtelgehpfjpbboaaDoor
