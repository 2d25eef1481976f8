/- An argument that is a slice of turns: its elements' cells. -/
import Derived.Test.YtgnodiegippkeaaDoorOpenSl
import Derived.Test.YtgnodiegippkeaaDoorByP
namespace Go.Proofs.YtgnodiegippkeaaDoor
open Go.ChangeShapes Go.WideShapes Go.ChangeAt Go.RowKit
set_option linter.unusedVariables false
theorem wf_bd' {n : Int} (h : (Lit.int .i64 n).wf = true) : -9223372036854775808 ≤ n ∧ n ≤ 9223372036854775807 := by
  simp [Lit.wf, IntKind.min, IntKind.max, IntKind.signed, IntKind.bits] at h; omega
set_option maxRecDepth 100000 in
theorem val_turns {H : Type} {enc : TypeId × Value → H} {w : World} {base b0 : Nat} {spare : Nat → Bool} {held : Bool} {v : Value} {d : DataW H} {p : List MemPlace} (hv : Value.okWide Tryd.prog w .any b0 42 v) (h : DataW.Trod enc Tryd.prog w base spare held 42 v d p) :
    ∃ (A : Option Addr) (cap : Nat) (l : List TuT), v = .slice A l.length cap ∧ l.length ≤ cap ∧ cap ≤ maxLen ∧ SlAt w w.heap.size 3 A (l.map tuCells) ∧ (∀ t ∈ l, t.2.2.size ≤ maxLen) ∧ (∀ t ∈ l, -9223372036854775808 ≤ t.1 ∧ t.1 ≤ 9223372036854775807) := by
  obtain ⟨a, len, c, rfl⟩ := okWide_slice Tryd.underlying42 hv
  obtain ⟨fuel, hf⟩ := h
  have hf : DataW.trod enc Tryd.prog w base spare held fuel 42 [.slice a len c] = some (d, p) := by simpa [Value.cells] using hf
  obtain ⟨A, capT, xT, eT, lT, mT, sT, rT⟩ := open_sl Tryd.underlying42 cells_turn (by omega) hf
  obtain ⟨ts, rfl, hts⟩ := map_of (α := TuT) tuCells xT (fun t => t.2.2.size ≤ maxLen ∧ (Lit.int .i64 t.1).wf = true) (fun i hi => by
    obtain ⟨y, m, hy⟩ := rT i hi
    obtain ⟨a, sv, name, e, wa, ws, hs⟩ := open_turn hy
    exact ⟨(a, sv, name), e, hs, wa⟩)
  simp only [List.cons.injEq, and_true, List.length_map] at eT lT
  rw [eT]
  exact ⟨A, capT, ts, rfl, lT, mT, sT, fun t ht => (hts t ht).1, fun t ht => wf_bd' (hts t ht).2⟩
end Go.Proofs.YtgnodiegippkeaaDoor
