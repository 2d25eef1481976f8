/- What the cells of an argument's structs are, where it can be read as data. -/
import Derived.Test.YtelgehpfjpbboaaDoorRows
import Derived.WalkKit
import Derived.ProofKit
import Derived.Carry
import Derived.Lib.SmallJoins
namespace Go.Proofs.YtelgehpfjpbboaaDoor
open Go.ChangeShapes Go.WideShapes Go.ChangeAt Go.RowKit
set_option linter.unusedVariables false
set_option maxRecDepth 100000
theorem cells_int : Tryd.prog.cellsOf 3 = 1 := by kernel_rfl
theorem fld {H : Type} {enc : TypeId × Value → H} {P : Program} {w : World} {base : Nat} {spare : Nat → Bool} {held : Bool} {fs : Array Field} {cs : List Value} {xs : List (DataW H × List MemPlace)} {n : Nat}
    (hg : ∀ (i : Nat) (f : Field), fs[i]? = some f → DataW.trod enc P w base spare held n f.type ((cs.drop f.offset).take (P.cellsOf f.type)) = xs[i]?) (hl : xs.length = fs.size)
    (i : Nat) (f : Field) (hi : fs[i]? = some f) : ∃ y, DataW.trod enc P w base spare held n f.type ((cs.drop f.offset).take (P.cellsOf f.type)) = some y := by
  have h1 : i < fs.size := (Array.getElem?_eq_some_iff.1 hi).1
  exact ⟨xs[i]'(by omega), by rw [hg i f hi, List.getElem?_eq_getElem (by omega)]⟩
section
variable {H : Type} {enc : TypeId × Value → H} {w : World} {base : Nat} {spare : Nat → Bool} {held : Bool} {fuel : Nat} {cs : List Value} {x : DataW H × List MemPlace}
theorem cells_string : Tryd.prog.cellsOf 9 = 1 := by kernel_rfl
theorem cells_bool : Tryd.prog.cellsOf 4 = 1 := by kernel_rfl

theorem cells_day : Tryd.prog.cellsOf 73 = 3 := by kernel_rfl
theorem open_day (h : DataW.trod enc Tryd.prog w base spare held fuel 73 cs = some x) : ∃ (k : Int) (wd : Int) (n : Int), cs = [.int .i64 k, .int .i64 wd, .int .i64 n] ∧ (Lit.int .i64 k).wf = true ∧ (Lit.int .i64 wd).wf = true ∧ (Lit.int .i64 n).wf = true := by
  obtain ⟨xs, n, _, _, hlen, hxl, hg⟩ := DataW.trod_struct Tryd.underlying73 h
  match cs, hlen.trans cells_day with
  | [c0, c1, c2], _ =>
    obtain ⟨y0, h0⟩ : ∃ y, DataW.trod enc Tryd.prog w base spare held n 3 ((([c0, c1, c2] : List Value).drop 0).take (Tryd.prog.cellsOf 3)) = some y := fld hg hxl 0 _ rfl
    rw [cells_int] at h0
    obtain ⟨k, e0, _, w_k⟩ := DataW.trod_int Tryd.underlying3 h0
    obtain ⟨y1, h1⟩ : ∃ y, DataW.trod enc Tryd.prog w base spare held n 3 ((([c0, c1, c2] : List Value).drop 1).take (Tryd.prog.cellsOf 3)) = some y := fld hg hxl 1 _ rfl
    rw [cells_int] at h1
    obtain ⟨wd, e1, _, w_wd⟩ := DataW.trod_int Tryd.underlying3 h1
    obtain ⟨y2, h2⟩ : ∃ y, DataW.trod enc Tryd.prog w base spare held n 3 ((([c0, c1, c2] : List Value).drop 2).take (Tryd.prog.cellsOf 3)) = some y := fld hg hxl 2 _ rfl
    rw [cells_int] at h2
    obtain ⟨n, e2, _, w_n⟩ := DataW.trod_int Tryd.underlying3 h2
    simp only [List.drop_zero, List.drop_succ_cons, List.take_succ_cons, List.take_zero, List.cons.injEq, and_true] at e0 e1 e2
    subst e0
    subst e1
    subst e2
    exact ⟨k, wd, n, rfl, w_k, w_wd, w_n⟩
theorem val_day {b0 : Nat} {v : Value} {d : DataW H} {p : List MemPlace} (hv : Value.okWide Tryd.prog w .any b0 73 v) (h : DataW.Trod enc Tryd.prog w base spare held 73 v d p) :
    ∃ (k : Int) (wd : Int) (n : Int), v = .agg #[.int .i64 k, .int .i64 wd, .int .i64 n] ∧ (Lit.int .i64 k).wf = true ∧ (Lit.int .i64 wd).wf = true ∧ (Lit.int .i64 n).wf = true := by
  obtain ⟨cs, rfl, hsz⟩ := okWide_struct Tryd.underlying73 hv
  obtain ⟨fuel, hf⟩ := h
  obtain ⟨k, wd, n, e, w_k, w_wd, w_n⟩ := open_day (cs := cs.toList) (by simpa [Value.cells] using hf)
  exact ⟨k, wd, n, by rw [← Array.toArray_toList (xs := cs), e], w_k, w_wd, w_n⟩
theorem cells_type : Tryd.prog.cellsOf 36 = 3 := by kernel_rfl
theorem open_type (h : DataW.trod enc Tryd.prog w base spare held fuel 36 cs = some x) : ∃ (off : Int) (sv : Bool) (name : ByteArray), cs = [.int .i64 off, .bool sv, .string name] ∧ (Lit.int .i64 off).wf = true ∧ name.size ≤ maxLen := by
  obtain ⟨xs, n, _, _, hlen, hxl, hg⟩ := DataW.trod_struct Tryd.underlying36 h
  match cs, hlen.trans cells_type with
  | [c0, c1, c2], _ =>
    obtain ⟨y0, h0⟩ : ∃ y, DataW.trod enc Tryd.prog w base spare held n 3 ((([c0, c1, c2] : List Value).drop 0).take (Tryd.prog.cellsOf 3)) = some y := fld hg hxl 0 _ rfl
    rw [cells_int] at h0
    obtain ⟨off, e0, _, w_off⟩ := DataW.trod_int Tryd.underlying3 h0
    obtain ⟨y1, h1⟩ : ∃ y, DataW.trod enc Tryd.prog w base spare held n 4 ((([c0, c1, c2] : List Value).drop 1).take (Tryd.prog.cellsOf 4)) = some y := fld hg hxl 1 _ rfl
    rw [cells_bool] at h1
    obtain ⟨sv, e1, _⟩ := DataW.trod_bool Tryd.underlying4 h1
    obtain ⟨y2, h2⟩ : ∃ y, DataW.trod enc Tryd.prog w base spare held n 9 ((([c0, c1, c2] : List Value).drop 2).take (Tryd.prog.cellsOf 9)) = some y := fld hg hxl 2 _ rfl
    rw [cells_string] at h2
    obtain ⟨name, e2, _, w_name⟩ := DataW.trod_string Tryd.underlying9 h2
    simp only [List.drop_zero, List.drop_succ_cons, List.take_succ_cons, List.take_zero, List.cons.injEq, and_true] at e0 e1 e2
    subst e0
    subst e1
    subst e2
    exact ⟨off, sv, name, rfl, w_off, w_name⟩
theorem val_type {b0 : Nat} {v : Value} {d : DataW H} {p : List MemPlace} (hv : Value.okWide Tryd.prog w .any b0 36 v) (h : DataW.Trod enc Tryd.prog w base spare held 36 v d p) :
    ∃ (off : Int) (sv : Bool) (name : ByteArray), v = .agg #[.int .i64 off, .bool sv, .string name] ∧ (Lit.int .i64 off).wf = true ∧ name.size ≤ maxLen := by
  obtain ⟨cs, rfl, hsz⟩ := okWide_struct Tryd.underlying36 hv
  obtain ⟨fuel, hf⟩ := h
  obtain ⟨off, sv, name, e, w_off, w_name⟩ := open_type (cs := cs.toList) (by simpa [Value.cells] using hf)
  exact ⟨off, sv, name, by rw [← Array.toArray_toList (xs := cs), e], w_off, w_name⟩
theorem cells_rite : Tryd.prog.cellsOf 23 = 4 := by kernel_rfl
theorem open_rite (h : DataW.trod enc Tryd.prog w base spare held fuel 23 cs = some x) : ∃ (mo : Int) (we : Int) (wd : Int) (a : Int), cs = [.int .i64 mo, .int .i64 we, .int .i64 wd, .int .i64 a] ∧ (Lit.int .i64 mo).wf = true ∧ (Lit.int .i64 we).wf = true ∧ (Lit.int .i64 wd).wf = true ∧ (Lit.int .i64 a).wf = true := by
  obtain ⟨xs, n, _, _, hlen, hxl, hg⟩ := DataW.trod_struct Tryd.underlying23 h
  match cs, hlen.trans cells_rite with
  | [c0, c1, c2, c3], _ =>
    obtain ⟨y0, h0⟩ : ∃ y, DataW.trod enc Tryd.prog w base spare held n 3 ((([c0, c1, c2, c3] : List Value).drop 0).take (Tryd.prog.cellsOf 3)) = some y := fld hg hxl 0 _ rfl
    rw [cells_int] at h0
    obtain ⟨mo, e0, _, w_mo⟩ := DataW.trod_int Tryd.underlying3 h0
    obtain ⟨y1, h1⟩ : ∃ y, DataW.trod enc Tryd.prog w base spare held n 3 ((([c0, c1, c2, c3] : List Value).drop 1).take (Tryd.prog.cellsOf 3)) = some y := fld hg hxl 1 _ rfl
    rw [cells_int] at h1
    obtain ⟨we, e1, _, w_we⟩ := DataW.trod_int Tryd.underlying3 h1
    obtain ⟨y2, h2⟩ : ∃ y, DataW.trod enc Tryd.prog w base spare held n 3 ((([c0, c1, c2, c3] : List Value).drop 2).take (Tryd.prog.cellsOf 3)) = some y := fld hg hxl 2 _ rfl
    rw [cells_int] at h2
    obtain ⟨wd, e2, _, w_wd⟩ := DataW.trod_int Tryd.underlying3 h2
    obtain ⟨y3, h3⟩ : ∃ y, DataW.trod enc Tryd.prog w base spare held n 3 ((([c0, c1, c2, c3] : List Value).drop 3).take (Tryd.prog.cellsOf 3)) = some y := fld hg hxl 3 _ rfl
    rw [cells_int] at h3
    obtain ⟨a, e3, _, w_a⟩ := DataW.trod_int Tryd.underlying3 h3
    simp only [List.drop_zero, List.drop_succ_cons, List.take_succ_cons, List.take_zero, List.cons.injEq, and_true] at e0 e1 e2 e3
    subst e0
    subst e1
    subst e2
    subst e3
    exact ⟨mo, we, wd, a, rfl, w_mo, w_we, w_wd, w_a⟩
theorem val_rite {b0 : Nat} {v : Value} {d : DataW H} {p : List MemPlace} (hv : Value.okWide Tryd.prog w .any b0 23 v) (h : DataW.Trod enc Tryd.prog w base spare held 23 v d p) :
    ∃ (mo : Int) (we : Int) (wd : Int) (a : Int), v = .agg #[.int .i64 mo, .int .i64 we, .int .i64 wd, .int .i64 a] ∧ (Lit.int .i64 mo).wf = true ∧ (Lit.int .i64 we).wf = true ∧ (Lit.int .i64 wd).wf = true ∧ (Lit.int .i64 a).wf = true := by
  obtain ⟨cs, rfl, hsz⟩ := okWide_struct Tryd.underlying23 hv
  obtain ⟨fuel, hf⟩ := h
  obtain ⟨mo, we, wd, a, e, w_mo, w_we, w_wd, w_a⟩ := open_rite (cs := cs.toList) (by simpa [Value.cells] using hf)
  exact ⟨mo, we, wd, a, by rw [← Array.toArray_toList (xs := cs), e], w_mo, w_we, w_wd, w_a⟩
theorem cells_posix : Tryd.prog.cellsOf 25 = 12 := by kernel_rfl
theorem open_posix (h : DataW.trod enc Tryd.prog w base spare held fuel 25 cs = some x) : ∃ (name : ByteArray) (off : Int) (also : ByteArray) (aoff : Int) (smo : Int) (swe : Int) (swd : Int) (sa : Int) (emo : Int) (ewe : Int) (ewd : Int) (ea : Int), cs = [.string name, .int .i64 off, .string also, .int .i64 aoff, .int .i64 smo, .int .i64 swe, .int .i64 swd, .int .i64 sa, .int .i64 emo, .int .i64 ewe, .int .i64 ewd, .int .i64 ea] ∧ (Lit.int .i64 off).wf = true ∧ (Lit.int .i64 aoff).wf = true ∧ (Lit.int .i64 smo).wf = true ∧ (Lit.int .i64 swe).wf = true ∧ (Lit.int .i64 swd).wf = true ∧ (Lit.int .i64 sa).wf = true ∧ (Lit.int .i64 emo).wf = true ∧ (Lit.int .i64 ewe).wf = true ∧ (Lit.int .i64 ewd).wf = true ∧ (Lit.int .i64 ea).wf = true ∧ name.size ≤ maxLen ∧ also.size ≤ maxLen := by
  obtain ⟨xs, n, _, _, hlen, hxl, hg⟩ := DataW.trod_struct Tryd.underlying25 h
  match cs, hlen.trans cells_posix with
  | [c0, c1, c2, c3, c4, c5, c6, c7, c8, c9, c10, c11], _ =>
    obtain ⟨y0, h0⟩ : ∃ y, DataW.trod enc Tryd.prog w base spare held n 9 ((([c0, c1, c2, c3, c4, c5, c6, c7, c8, c9, c10, c11] : List Value).drop 0).take (Tryd.prog.cellsOf 9)) = some y := fld hg hxl 0 _ rfl
    rw [cells_string] at h0
    obtain ⟨name, e0, _, w_name⟩ := DataW.trod_string Tryd.underlying9 h0
    obtain ⟨y1, h1⟩ : ∃ y, DataW.trod enc Tryd.prog w base spare held n 3 ((([c0, c1, c2, c3, c4, c5, c6, c7, c8, c9, c10, c11] : List Value).drop 1).take (Tryd.prog.cellsOf 3)) = some y := fld hg hxl 1 _ rfl
    rw [cells_int] at h1
    obtain ⟨off, e1, _, w_off⟩ := DataW.trod_int Tryd.underlying3 h1
    obtain ⟨y2, h2⟩ : ∃ y, DataW.trod enc Tryd.prog w base spare held n 9 ((([c0, c1, c2, c3, c4, c5, c6, c7, c8, c9, c10, c11] : List Value).drop 2).take (Tryd.prog.cellsOf 9)) = some y := fld hg hxl 2 _ rfl
    rw [cells_string] at h2
    obtain ⟨also, e2, _, w_also⟩ := DataW.trod_string Tryd.underlying9 h2
    obtain ⟨y3, h3⟩ : ∃ y, DataW.trod enc Tryd.prog w base spare held n 3 ((([c0, c1, c2, c3, c4, c5, c6, c7, c8, c9, c10, c11] : List Value).drop 3).take (Tryd.prog.cellsOf 3)) = some y := fld hg hxl 3 _ rfl
    rw [cells_int] at h3
    obtain ⟨aoff, e3, _, w_aoff⟩ := DataW.trod_int Tryd.underlying3 h3
    obtain ⟨y4, h4⟩ : ∃ y, DataW.trod enc Tryd.prog w base spare held n 23 ((([c0, c1, c2, c3, c4, c5, c6, c7, c8, c9, c10, c11] : List Value).drop 4).take (Tryd.prog.cellsOf 23)) = some y := fld hg hxl 4 _ rfl
    rw [cells_rite] at h4
    obtain ⟨smo, swe, swd, sa, e4, w_smo, w_swe, w_swd, w_sa⟩ := open_rite h4
    obtain ⟨y5, h5⟩ : ∃ y, DataW.trod enc Tryd.prog w base spare held n 23 ((([c0, c1, c2, c3, c4, c5, c6, c7, c8, c9, c10, c11] : List Value).drop 8).take (Tryd.prog.cellsOf 23)) = some y := fld hg hxl 5 _ rfl
    rw [cells_rite] at h5
    obtain ⟨emo, ewe, ewd, ea, e5, w_emo, w_ewe, w_ewd, w_ea⟩ := open_rite h5
    simp only [List.drop_zero, List.drop_succ_cons, List.take_succ_cons, List.take_zero, List.cons.injEq, and_true] at e0 e1 e2 e3 e4 e5
    subst e0
    subst e1
    subst e2
    subst e3
    obtain ⟨rfl, rfl, rfl, rfl⟩ := e4
    obtain ⟨rfl, rfl, rfl, rfl⟩ := e5
    exact ⟨name, off, also, aoff, smo, swe, swd, sa, emo, ewe, ewd, ea, rfl, w_off, w_aoff, w_smo, w_swe, w_swd, w_sa, w_emo, w_ewe, w_ewd, w_ea, w_name, w_also⟩
theorem val_posix {b0 : Nat} {v : Value} {d : DataW H} {p : List MemPlace} (hv : Value.okWide Tryd.prog w .any b0 25 v) (h : DataW.Trod enc Tryd.prog w base spare held 25 v d p) :
    ∃ (name : ByteArray) (off : Int) (also : ByteArray) (aoff : Int) (smo : Int) (swe : Int) (swd : Int) (sa : Int) (emo : Int) (ewe : Int) (ewd : Int) (ea : Int), v = .agg #[.string name, .int .i64 off, .string also, .int .i64 aoff, .int .i64 smo, .int .i64 swe, .int .i64 swd, .int .i64 sa, .int .i64 emo, .int .i64 ewe, .int .i64 ewd, .int .i64 ea] ∧ (Lit.int .i64 off).wf = true ∧ (Lit.int .i64 aoff).wf = true ∧ (Lit.int .i64 smo).wf = true ∧ (Lit.int .i64 swe).wf = true ∧ (Lit.int .i64 swd).wf = true ∧ (Lit.int .i64 sa).wf = true ∧ (Lit.int .i64 emo).wf = true ∧ (Lit.int .i64 ewe).wf = true ∧ (Lit.int .i64 ewd).wf = true ∧ (Lit.int .i64 ea).wf = true ∧ name.size ≤ maxLen ∧ also.size ≤ maxLen := by
  obtain ⟨cs, rfl, hsz⟩ := okWide_struct Tryd.underlying25 hv
  obtain ⟨fuel, hf⟩ := h
  obtain ⟨name, off, also, aoff, smo, swe, swd, sa, emo, ewe, ewd, ea, e, w_off, w_aoff, w_smo, w_swe, w_swd, w_sa, w_emo, w_ewe, w_ewd, w_ea, w_name, w_also⟩ := open_posix (cs := cs.toList) (by simpa [Value.cells] using hf)
  exact ⟨name, off, also, aoff, smo, swe, swd, sa, emo, ewe, ewd, ea, by rw [← Array.toArray_toList (xs := cs), e], w_off, w_aoff, w_smo, w_swe, w_swd, w_sa, w_emo, w_ewe, w_ewd, w_ea, w_name, w_also⟩
end
end Go.Proofs.YtelgehpfjpbboaaDoor
