/- An argument that is a slice of bytes. -/
import Derived.Test.YtcoapllgpjjbcaaOpenSl
import Derived.Test.YtcoapllgpjjbcaaPqP
import Derived.Test.YtcoapllgpjjbcaaEqY
namespace Go.Proofs.Ytcoapllgpjjbcaa
open Go.ChangeShapes Go.WideShapes Go.ChangeAt Go.RowKit
set_option linter.unusedVariables false
theorem cells_byte : Try.prog.cellsOf 5 = 1 := by kernel_rfl
theorem wf_by {n : Int} (h : (Lit.int .u8 n).wf = true) : 0 ≤ n ∧ n ≤ 255 := by
  simp [Lit.wf, IntKind.min, IntKind.max, IntKind.signed, IntKind.bits] at h; omega
set_option maxRecDepth 100000 in
theorem val_bytes {H : Type} {enc : TypeId × Value → H} {w : World} {base b0 : Nat} {spare : Nat → Bool} {held : Bool} {v : Value} {d : DataW H} {p : List MemPlace} (hv : Value.okWide Try.prog w .any b0 26 v) (h : DataW.Trod enc Try.prog w base spare held 26 v d p) :
    ∃ (A : Option Addr) (cap : Nat) (l : List Int), v = .slice A l.length cap ∧ l.length ≤ cap ∧ cap ≤ maxLen ∧ SlAt w w.heap.size 1 A (l.map byCells) ∧ Byt l := by
  obtain ⟨a, len, c, rfl⟩ := okWide_slice Try.underlying26 hv
  obtain ⟨fuel, hf⟩ := h
  have hf : DataW.trod enc Try.prog w base spare held fuel 26 [.slice a len c] = some (d, p) := by simpa [Value.cells] using hf
  obtain ⟨A, capT, xT, eT, lT, mT, sT, rT⟩ := open_sl Try.underlying26 cells_byte (by omega) hf
  obtain ⟨ts, rfl, hts⟩ := map_of (α := Int) byCells xT (fun c => 0 ≤ c ∧ c ≤ 255) (fun i hi => by
    obtain ⟨y, m, hy⟩ := rT i hi
    obtain ⟨n, e, _, wn⟩ := DataW.trod_int Try.underlying5 hy
    exact ⟨n, e, wf_by wn⟩)
  simp only [List.cons.injEq, and_true, List.length_map] at eT lT
  rw [eT]
  exact ⟨A, capT, ts, rfl, lT, mT, sT, hts⟩
end Go.Proofs.Ytcoapllgpjjbcaa
