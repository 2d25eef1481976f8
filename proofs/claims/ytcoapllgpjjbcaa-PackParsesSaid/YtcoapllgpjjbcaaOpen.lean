/- What the cells of an argument's structs are, where it can be read as data. -/
import Derived.Test.YtcoapllgpjjbcaaRows
import Derived.WalkKit
import Derived.ProofKit
import Derived.Carry
import Derived.Lib.SmallJoins
namespace Go.Proofs.Ytcoapllgpjjbcaa
open Go.ChangeShapes Go.WideShapes Go.ChangeAt Go.RowKit
set_option linter.unusedVariables false
set_option maxRecDepth 100000
theorem cells_int : Try.prog.cellsOf 3 = 1 := by kernel_rfl
theorem fld {H : Type} {enc : TypeId × Value → H} {P : Program} {w : World} {base : Nat} {spare : Nat → Bool} {held : Bool} {fs : Array Field} {cs : List Value} {xs : List (DataW H × List MemPlace)} {n : Nat}
    (hg : ∀ (i : Nat) (f : Field), fs[i]? = some f → DataW.trod enc P w base spare held n f.type ((cs.drop f.offset).take (P.cellsOf f.type)) = xs[i]?) (hl : xs.length = fs.size)
    (i : Nat) (f : Field) (hi : fs[i]? = some f) : ∃ y, DataW.trod enc P w base spare held n f.type ((cs.drop f.offset).take (P.cellsOf f.type)) = some y := by
  have h1 : i < fs.size := (Array.getElem?_eq_some_iff.1 hi).1
  exact ⟨xs[i]'(by omega), by rw [hg i f hi, List.getElem?_eq_getElem (by omega)]⟩
section
variable {H : Type} {enc : TypeId × Value → H} {w : World} {base : Nat} {spare : Nat → Bool} {held : Bool} {fuel : Nat} {cs : List Value} {x : DataW H × List MemPlace}
theorem cells_string : Try.prog.cellsOf 9 = 1 := by kernel_rfl
theorem cells_bool : Try.prog.cellsOf 4 = 1 := by kernel_rfl

theorem cells_type : Try.prog.cellsOf 50 = 3 := by kernel_rfl
theorem open_type (h : DataW.trod enc Try.prog w base spare held fuel 50 cs = some x) : ∃ (off : Int) (sv : Bool) (name : ByteArray), cs = [.int .i64 off, .bool sv, .string name] ∧ (Lit.int .i64 off).wf = true ∧ name.size ≤ maxLen := by
  obtain ⟨xs, n, _, _, hlen, hxl, hg⟩ := DataW.trod_struct Try.underlying50 h
  match cs, hlen.trans cells_type with
  | [c0, c1, c2], _ =>
    obtain ⟨y0, h0⟩ : ∃ y, DataW.trod enc Try.prog w base spare held n 3 ((([c0, c1, c2] : List Value).drop 0).take (Try.prog.cellsOf 3)) = some y := fld hg hxl 0 _ rfl
    rw [cells_int] at h0
    obtain ⟨off, e0, _, w_off⟩ := DataW.trod_int Try.underlying3 h0
    obtain ⟨y1, h1⟩ : ∃ y, DataW.trod enc Try.prog w base spare held n 4 ((([c0, c1, c2] : List Value).drop 1).take (Try.prog.cellsOf 4)) = some y := fld hg hxl 1 _ rfl
    rw [cells_bool] at h1
    obtain ⟨sv, e1, _⟩ := DataW.trod_bool Try.underlying4 h1
    obtain ⟨y2, h2⟩ : ∃ y, DataW.trod enc Try.prog w base spare held n 9 ((([c0, c1, c2] : List Value).drop 2).take (Try.prog.cellsOf 9)) = some y := fld hg hxl 2 _ rfl
    rw [cells_string] at h2
    obtain ⟨name, e2, _, w_name⟩ := DataW.trod_string Try.underlying9 h2
    simp only [List.drop_zero, List.drop_succ_cons, List.take_succ_cons, List.take_zero, List.cons.injEq, and_true] at e0 e1 e2
    subst e0
    subst e1
    subst e2
    exact ⟨off, sv, name, rfl, w_off, w_name⟩
theorem val_type {b0 : Nat} {v : Value} {d : DataW H} {p : List MemPlace} (hv : Value.okWide Try.prog w .any b0 50 v) (h : DataW.Trod enc Try.prog w base spare held 50 v d p) :
    ∃ (off : Int) (sv : Bool) (name : ByteArray), v = .agg #[.int .i64 off, .bool sv, .string name] ∧ (Lit.int .i64 off).wf = true ∧ name.size ≤ maxLen := by
  obtain ⟨cs, rfl, hsz⟩ := okWide_struct Try.underlying50 hv
  obtain ⟨fuel, hf⟩ := h
  obtain ⟨off, sv, name, e, w_off, w_name⟩ := open_type (cs := cs.toList) (by simpa [Value.cells] using hf)
  exact ⟨off, sv, name, by rw [← Array.toArray_toList (xs := cs), e], w_off, w_name⟩
theorem cells_change : Try.prog.cellsOf 52 = 2 := by kernel_rfl
theorem open_change (h : DataW.trod enc Try.prog w base spare held fuel 52 cs = some x) : ∃ (a : Int) (ty : Int), cs = [.int .i64 a, .int .i64 ty] ∧ (Lit.int .i64 a).wf = true ∧ (Lit.int .i64 ty).wf = true := by
  obtain ⟨xs, n, _, _, hlen, hxl, hg⟩ := DataW.trod_struct Try.underlying52 h
  match cs, hlen.trans cells_change with
  | [c0, c1], _ =>
    obtain ⟨y0, h0⟩ : ∃ y, DataW.trod enc Try.prog w base spare held n 3 ((([c0, c1] : List Value).drop 0).take (Try.prog.cellsOf 3)) = some y := fld hg hxl 0 _ rfl
    rw [cells_int] at h0
    obtain ⟨a, e0, _, w_a⟩ := DataW.trod_int Try.underlying3 h0
    obtain ⟨y1, h1⟩ : ∃ y, DataW.trod enc Try.prog w base spare held n 3 ((([c0, c1] : List Value).drop 1).take (Try.prog.cellsOf 3)) = some y := fld hg hxl 1 _ rfl
    rw [cells_int] at h1
    obtain ⟨ty, e1, _, w_ty⟩ := DataW.trod_int Try.underlying3 h1
    simp only [List.drop_zero, List.drop_succ_cons, List.take_succ_cons, List.take_zero, List.cons.injEq, and_true] at e0 e1
    subst e0
    subst e1
    exact ⟨a, ty, rfl, w_a, w_ty⟩
theorem val_change {b0 : Nat} {v : Value} {d : DataW H} {p : List MemPlace} (hv : Value.okWide Try.prog w .any b0 52 v) (h : DataW.Trod enc Try.prog w base spare held 52 v d p) :
    ∃ (a : Int) (ty : Int), v = .agg #[.int .i64 a, .int .i64 ty] ∧ (Lit.int .i64 a).wf = true ∧ (Lit.int .i64 ty).wf = true := by
  obtain ⟨cs, rfl, hsz⟩ := okWide_struct Try.underlying52 hv
  obtain ⟨fuel, hf⟩ := h
  obtain ⟨a, ty, e, w_a, w_ty⟩ := open_change (cs := cs.toList) (by simpa [Value.cells] using hf)
  exact ⟨a, ty, by rw [← Array.toArray_toList (xs := cs), e], w_a, w_ty⟩
theorem cells_span : Try.prog.cellsOf 37 = 2 := by kernel_rfl
theorem open_span (h : DataW.trod enc Try.prog w base spare held fuel 37 cs = some x) : ∃ (fr : Int) (to : Int), cs = [.int .i64 fr, .int .i64 to] ∧ (Lit.int .i64 fr).wf = true ∧ (Lit.int .i64 to).wf = true := by
  obtain ⟨xs, n, _, _, hlen, hxl, hg⟩ := DataW.trod_struct Try.underlying37 h
  match cs, hlen.trans cells_span with
  | [c0, c1], _ =>
    obtain ⟨y0, h0⟩ : ∃ y, DataW.trod enc Try.prog w base spare held n 3 ((([c0, c1] : List Value).drop 0).take (Try.prog.cellsOf 3)) = some y := fld hg hxl 0 _ rfl
    rw [cells_int] at h0
    obtain ⟨fr, e0, _, w_fr⟩ := DataW.trod_int Try.underlying3 h0
    obtain ⟨y1, h1⟩ : ∃ y, DataW.trod enc Try.prog w base spare held n 3 ((([c0, c1] : List Value).drop 1).take (Try.prog.cellsOf 3)) = some y := fld hg hxl 1 _ rfl
    rw [cells_int] at h1
    obtain ⟨to, e1, _, w_to⟩ := DataW.trod_int Try.underlying3 h1
    simp only [List.drop_zero, List.drop_succ_cons, List.take_succ_cons, List.take_zero, List.cons.injEq, and_true] at e0 e1
    subst e0
    subst e1
    exact ⟨fr, to, rfl, w_fr, w_to⟩
theorem val_span {b0 : Nat} {v : Value} {d : DataW H} {p : List MemPlace} (hv : Value.okWide Try.prog w .any b0 37 v) (h : DataW.Trod enc Try.prog w base spare held 37 v d p) :
    ∃ (fr : Int) (to : Int), v = .agg #[.int .i64 fr, .int .i64 to] ∧ (Lit.int .i64 fr).wf = true ∧ (Lit.int .i64 to).wf = true := by
  obtain ⟨cs, rfl, hsz⟩ := okWide_struct Try.underlying37 hv
  obtain ⟨fuel, hf⟩ := h
  obtain ⟨fr, to, e, w_fr, w_to⟩ := open_span (cs := cs.toList) (by simpa [Value.cells] using hf)
  exact ⟨fr, to, by rw [← Array.toArray_toList (xs := cs), e], w_fr, w_to⟩
end
end Go.Proofs.Ytcoapllgpjjbcaa
