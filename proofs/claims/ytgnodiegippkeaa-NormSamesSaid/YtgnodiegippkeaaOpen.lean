/- What the cells of an argument's structs are, where it can be read as data. -/
import Derived.Test.YtgnodiegippkeaaRows
import Derived.WalkKit
import Derived.ProofKit
import Derived.Carry
import Derived.Lib.SmallJoins
namespace Go.Proofs.Ytgnodiegippkeaa
open Go.ChangeShapes Go.WideShapes Go.ChangeAt Go.RowKit
set_option linter.unusedVariables false
set_option maxRecDepth 100000
theorem cells_int : Try.prog.cellsOf 3 = 1 := by kernel_rfl
theorem fld {H : Type} {enc : TypeId × Value → H} {P : Program} {w : World} {base : Nat} {spare : Nat → Bool} {held : Bool} {fs : Array Field} {cs : List Value} {xs : List (DataW H × List MemPlace)} {n : Nat}
    (hg : ∀ (i : Nat) (f : Field), fs[i]? = some f → DataW.trod enc P w base spare held n f.type ((cs.drop f.offset).take (P.cellsOf f.type)) = xs[i]?) (hl : xs.length = fs.size)
    (i : Nat) (f : Field) (hi : fs[i]? = some f) : ∃ y, DataW.trod enc P w base spare held n f.type ((cs.drop f.offset).take (P.cellsOf f.type)) = some y := by
  have h1 : i < fs.size := (Array.getElem?_eq_some_iff.1 hi).1
  exact ⟨xs[i]'(by omega), by rw [hg i f hi, List.getElem?_eq_getElem (by omega)]⟩
section
variable {H : Type} {enc : TypeId × Value → H} {w : World} {base : Nat} {spare : Nat → Bool} {held : Bool} {fuel : Nat} {cs : List Value} {x : DataW H × List MemPlace}
theorem cells_string : Try.prog.cellsOf 9 = 1 := by kernel_rfl
theorem cells_bool : Try.prog.cellsOf 4 = 1 := by kernel_rfl

theorem cells_day : Try.prog.cellsOf 105 = 3 := by kernel_rfl
theorem open_day (h : DataW.trod enc Try.prog w base spare held fuel 105 cs = some x) : ∃ (k : Int) (wd : Int) (n : Int), cs = [.int .i64 k, .int .i64 wd, .int .i64 n] ∧ (Lit.int .i64 k).wf = true ∧ (Lit.int .i64 wd).wf = true ∧ (Lit.int .i64 n).wf = true := by
  obtain ⟨xs, n, _, _, hlen, hxl, hg⟩ := DataW.trod_struct Try.underlying105 h
  match cs, hlen.trans cells_day with
  | [c0, c1, c2], _ =>
    obtain ⟨y0, h0⟩ : ∃ y, DataW.trod enc Try.prog w base spare held n 3 ((([c0, c1, c2] : List Value).drop 0).take (Try.prog.cellsOf 3)) = some y := fld hg hxl 0 _ rfl
    rw [cells_int] at h0
    obtain ⟨k, e0, _, w_k⟩ := DataW.trod_int Try.underlying3 h0
    obtain ⟨y1, h1⟩ : ∃ y, DataW.trod enc Try.prog w base spare held n 3 ((([c0, c1, c2] : List Value).drop 1).take (Try.prog.cellsOf 3)) = some y := fld hg hxl 1 _ rfl
    rw [cells_int] at h1
    obtain ⟨wd, e1, _, w_wd⟩ := DataW.trod_int Try.underlying3 h1
    obtain ⟨y2, h2⟩ : ∃ y, DataW.trod enc Try.prog w base spare held n 3 ((([c0, c1, c2] : List Value).drop 2).take (Try.prog.cellsOf 3)) = some y := fld hg hxl 2 _ rfl
    rw [cells_int] at h2
    obtain ⟨n, e2, _, w_n⟩ := DataW.trod_int Try.underlying3 h2
    simp only [List.drop_zero, List.drop_succ_cons, List.take_succ_cons, List.take_zero, List.cons.injEq, and_true] at e0 e1 e2
    subst e0
    subst e1
    subst e2
    exact ⟨k, wd, n, rfl, w_k, w_wd, w_n⟩
theorem val_day {b0 : Nat} {v : Value} {d : DataW H} {p : List MemPlace} (hv : Value.okWide Try.prog w .any b0 105 v) (h : DataW.Trod enc Try.prog w base spare held 105 v d p) :
    ∃ (k : Int) (wd : Int) (n : Int), v = .agg #[.int .i64 k, .int .i64 wd, .int .i64 n] ∧ (Lit.int .i64 k).wf = true ∧ (Lit.int .i64 wd).wf = true ∧ (Lit.int .i64 n).wf = true := by
  obtain ⟨cs, rfl, hsz⟩ := okWide_struct Try.underlying105 hv
  obtain ⟨fuel, hf⟩ := h
  obtain ⟨k, wd, n, e, w_k, w_wd, w_n⟩ := open_day (cs := cs.toList) (by simpa [Value.cells] using hf)
  exact ⟨k, wd, n, by rw [← Array.toArray_toList (xs := cs), e], w_k, w_wd, w_n⟩
theorem cells_rule : Try.prog.cellsOf 108 = 11 := by kernel_rfl
theorem open_rule (h : DataW.trod enc Try.prog w base spare held fuel 108 cs = some x) : ∃ (name : ByteArray) (f : Int) (t : Int) (m : Int) (onk : Int) (onwd : Int) (onn : Int) (a : Int) (b : Int) (sv : Int) (letter : ByteArray), cs = [.string name, .int .i64 f, .int .i64 t, .int .i64 m, .int .i64 onk, .int .i64 onwd, .int .i64 onn, .int .i64 a, .int .i64 b, .int .i64 sv, .string letter] ∧ (Lit.int .i64 f).wf = true ∧ (Lit.int .i64 t).wf = true ∧ (Lit.int .i64 m).wf = true ∧ (Lit.int .i64 onk).wf = true ∧ (Lit.int .i64 onwd).wf = true ∧ (Lit.int .i64 onn).wf = true ∧ (Lit.int .i64 a).wf = true ∧ (Lit.int .i64 b).wf = true ∧ (Lit.int .i64 sv).wf = true ∧ name.size ≤ maxLen ∧ letter.size ≤ maxLen := by
  obtain ⟨xs, n, _, _, hlen, hxl, hg⟩ := DataW.trod_struct Try.underlying108 h
  match cs, hlen.trans cells_rule with
  | [c0, c1, c2, c3, c4, c5, c6, c7, c8, c9, c10], _ =>
    obtain ⟨y0, h0⟩ : ∃ y, DataW.trod enc Try.prog w base spare held n 9 ((([c0, c1, c2, c3, c4, c5, c6, c7, c8, c9, c10] : List Value).drop 0).take (Try.prog.cellsOf 9)) = some y := fld hg hxl 0 _ rfl
    rw [cells_string] at h0
    obtain ⟨name, e0, _, w_name⟩ := DataW.trod_string Try.underlying9 h0
    obtain ⟨y1, h1⟩ : ∃ y, DataW.trod enc Try.prog w base spare held n 3 ((([c0, c1, c2, c3, c4, c5, c6, c7, c8, c9, c10] : List Value).drop 1).take (Try.prog.cellsOf 3)) = some y := fld hg hxl 1 _ rfl
    rw [cells_int] at h1
    obtain ⟨f, e1, _, w_f⟩ := DataW.trod_int Try.underlying3 h1
    obtain ⟨y2, h2⟩ : ∃ y, DataW.trod enc Try.prog w base spare held n 3 ((([c0, c1, c2, c3, c4, c5, c6, c7, c8, c9, c10] : List Value).drop 2).take (Try.prog.cellsOf 3)) = some y := fld hg hxl 2 _ rfl
    rw [cells_int] at h2
    obtain ⟨t, e2, _, w_t⟩ := DataW.trod_int Try.underlying3 h2
    obtain ⟨y3, h3⟩ : ∃ y, DataW.trod enc Try.prog w base spare held n 3 ((([c0, c1, c2, c3, c4, c5, c6, c7, c8, c9, c10] : List Value).drop 3).take (Try.prog.cellsOf 3)) = some y := fld hg hxl 3 _ rfl
    rw [cells_int] at h3
    obtain ⟨m, e3, _, w_m⟩ := DataW.trod_int Try.underlying3 h3
    obtain ⟨y4, h4⟩ : ∃ y, DataW.trod enc Try.prog w base spare held n 105 ((([c0, c1, c2, c3, c4, c5, c6, c7, c8, c9, c10] : List Value).drop 4).take (Try.prog.cellsOf 105)) = some y := fld hg hxl 4 _ rfl
    rw [cells_day] at h4
    obtain ⟨onk, onwd, onn, e4, w_onk, w_onwd, w_onn⟩ := open_day h4
    obtain ⟨y5, h5⟩ : ∃ y, DataW.trod enc Try.prog w base spare held n 3 ((([c0, c1, c2, c3, c4, c5, c6, c7, c8, c9, c10] : List Value).drop 7).take (Try.prog.cellsOf 3)) = some y := fld hg hxl 5 _ rfl
    rw [cells_int] at h5
    obtain ⟨a, e5, _, w_a⟩ := DataW.trod_int Try.underlying3 h5
    obtain ⟨y6, h6⟩ : ∃ y, DataW.trod enc Try.prog w base spare held n 3 ((([c0, c1, c2, c3, c4, c5, c6, c7, c8, c9, c10] : List Value).drop 8).take (Try.prog.cellsOf 3)) = some y := fld hg hxl 6 _ rfl
    rw [cells_int] at h6
    obtain ⟨b, e6, _, w_b⟩ := DataW.trod_int Try.underlying3 h6
    obtain ⟨y7, h7⟩ : ∃ y, DataW.trod enc Try.prog w base spare held n 3 ((([c0, c1, c2, c3, c4, c5, c6, c7, c8, c9, c10] : List Value).drop 9).take (Try.prog.cellsOf 3)) = some y := fld hg hxl 7 _ rfl
    rw [cells_int] at h7
    obtain ⟨sv, e7, _, w_sv⟩ := DataW.trod_int Try.underlying3 h7
    obtain ⟨y8, h8⟩ : ∃ y, DataW.trod enc Try.prog w base spare held n 9 ((([c0, c1, c2, c3, c4, c5, c6, c7, c8, c9, c10] : List Value).drop 10).take (Try.prog.cellsOf 9)) = some y := fld hg hxl 8 _ rfl
    rw [cells_string] at h8
    obtain ⟨letter, e8, _, w_letter⟩ := DataW.trod_string Try.underlying9 h8
    simp only [List.drop_zero, List.drop_succ_cons, List.take_succ_cons, List.take_zero, List.cons.injEq, and_true] at e0 e1 e2 e3 e4 e5 e6 e7 e8
    subst e0
    subst e1
    subst e2
    subst e3
    obtain ⟨rfl, rfl, rfl⟩ := e4
    subst e5
    subst e6
    subst e7
    subst e8
    exact ⟨name, f, t, m, onk, onwd, onn, a, b, sv, letter, rfl, w_f, w_t, w_m, w_onk, w_onwd, w_onn, w_a, w_b, w_sv, w_name, w_letter⟩
theorem val_rule {b0 : Nat} {v : Value} {d : DataW H} {p : List MemPlace} (hv : Value.okWide Try.prog w .any b0 108 v) (h : DataW.Trod enc Try.prog w base spare held 108 v d p) :
    ∃ (name : ByteArray) (f : Int) (t : Int) (m : Int) (onk : Int) (onwd : Int) (onn : Int) (a : Int) (b : Int) (sv : Int) (letter : ByteArray), v = .agg #[.string name, .int .i64 f, .int .i64 t, .int .i64 m, .int .i64 onk, .int .i64 onwd, .int .i64 onn, .int .i64 a, .int .i64 b, .int .i64 sv, .string letter] ∧ (Lit.int .i64 f).wf = true ∧ (Lit.int .i64 t).wf = true ∧ (Lit.int .i64 m).wf = true ∧ (Lit.int .i64 onk).wf = true ∧ (Lit.int .i64 onwd).wf = true ∧ (Lit.int .i64 onn).wf = true ∧ (Lit.int .i64 a).wf = true ∧ (Lit.int .i64 b).wf = true ∧ (Lit.int .i64 sv).wf = true ∧ name.size ≤ maxLen ∧ letter.size ≤ maxLen := by
  obtain ⟨cs, rfl, hsz⟩ := okWide_struct Try.underlying108 hv
  obtain ⟨fuel, hf⟩ := h
  obtain ⟨name, f, t, m, onk, onwd, onn, a, b, sv, letter, e, w_f, w_t, w_m, w_onk, w_onwd, w_onn, w_a, w_b, w_sv, w_name, w_letter⟩ := open_rule (cs := cs.toList) (by simpa [Value.cells] using hf)
  exact ⟨name, f, t, m, onk, onwd, onn, a, b, sv, letter, by rw [← Array.toArray_toList (xs := cs), e], w_f, w_t, w_m, w_onk, w_onwd, w_onn, w_a, w_b, w_sv, w_name, w_letter⟩
theorem cells_type : Try.prog.cellsOf 77 = 3 := by kernel_rfl
theorem open_type (h : DataW.trod enc Try.prog w base spare held fuel 77 cs = some x) : ∃ (off : Int) (sv : Bool) (name : ByteArray), cs = [.int .i64 off, .bool sv, .string name] ∧ (Lit.int .i64 off).wf = true ∧ name.size ≤ maxLen := by
  obtain ⟨xs, n, _, _, hlen, hxl, hg⟩ := DataW.trod_struct Try.underlying77 h
  match cs, hlen.trans cells_type with
  | [c0, c1, c2], _ =>
    obtain ⟨y0, h0⟩ : ∃ y, DataW.trod enc Try.prog w base spare held n 3 ((([c0, c1, c2] : List Value).drop 0).take (Try.prog.cellsOf 3)) = some y := fld hg hxl 0 _ rfl
    rw [cells_int] at h0
    obtain ⟨off, e0, _, w_off⟩ := DataW.trod_int Try.underlying3 h0
    obtain ⟨y1, h1⟩ : ∃ y, DataW.trod enc Try.prog w base spare held n 4 ((([c0, c1, c2] : List Value).drop 1).take (Try.prog.cellsOf 4)) = some y := fld hg hxl 1 _ rfl
    rw [cells_bool] at h1
    obtain ⟨sv, e1, _⟩ := DataW.trod_bool Try.underlying4 h1
    obtain ⟨y2, h2⟩ : ∃ y, DataW.trod enc Try.prog w base spare held n 9 ((([c0, c1, c2] : List Value).drop 2).take (Try.prog.cellsOf 9)) = some y := fld hg hxl 2 _ rfl
    rw [cells_string] at h2
    obtain ⟨name, e2, _, w_name⟩ := DataW.trod_string Try.underlying9 h2
    simp only [List.drop_zero, List.drop_succ_cons, List.take_succ_cons, List.take_zero, List.cons.injEq, and_true] at e0 e1 e2
    subst e0
    subst e1
    subst e2
    exact ⟨off, sv, name, rfl, w_off, w_name⟩
theorem val_type {b0 : Nat} {v : Value} {d : DataW H} {p : List MemPlace} (hv : Value.okWide Try.prog w .any b0 77 v) (h : DataW.Trod enc Try.prog w base spare held 77 v d p) :
    ∃ (off : Int) (sv : Bool) (name : ByteArray), v = .agg #[.int .i64 off, .bool sv, .string name] ∧ (Lit.int .i64 off).wf = true ∧ name.size ≤ maxLen := by
  obtain ⟨cs, rfl, hsz⟩ := okWide_struct Try.underlying77 hv
  obtain ⟨fuel, hf⟩ := h
  obtain ⟨off, sv, name, e, w_off, w_name⟩ := open_type (cs := cs.toList) (by simpa [Value.cells] using hf)
  exact ⟨off, sv, name, by rw [← Array.toArray_toList (xs := cs), e], w_off, w_name⟩
theorem cells_change : Try.prog.cellsOf 84 = 2 := by kernel_rfl
theorem open_change (h : DataW.trod enc Try.prog w base spare held fuel 84 cs = some x) : ∃ (a : Int) (ty : Int), cs = [.int .i64 a, .int .i64 ty] ∧ (Lit.int .i64 a).wf = true ∧ (Lit.int .i64 ty).wf = true := by
  obtain ⟨xs, n, _, _, hlen, hxl, hg⟩ := DataW.trod_struct Try.underlying84 h
  match cs, hlen.trans cells_change with
  | [c0, c1], _ =>
    obtain ⟨y0, h0⟩ : ∃ y, DataW.trod enc Try.prog w base spare held n 3 ((([c0, c1] : List Value).drop 0).take (Try.prog.cellsOf 3)) = some y := fld hg hxl 0 _ rfl
    rw [cells_int] at h0
    obtain ⟨a, e0, _, w_a⟩ := DataW.trod_int Try.underlying3 h0
    obtain ⟨y1, h1⟩ : ∃ y, DataW.trod enc Try.prog w base spare held n 3 ((([c0, c1] : List Value).drop 1).take (Try.prog.cellsOf 3)) = some y := fld hg hxl 1 _ rfl
    rw [cells_int] at h1
    obtain ⟨ty, e1, _, w_ty⟩ := DataW.trod_int Try.underlying3 h1
    simp only [List.drop_zero, List.drop_succ_cons, List.take_succ_cons, List.take_zero, List.cons.injEq, and_true] at e0 e1
    subst e0
    subst e1
    exact ⟨a, ty, rfl, w_a, w_ty⟩
theorem val_change {b0 : Nat} {v : Value} {d : DataW H} {p : List MemPlace} (hv : Value.okWide Try.prog w .any b0 84 v) (h : DataW.Trod enc Try.prog w base spare held 84 v d p) :
    ∃ (a : Int) (ty : Int), v = .agg #[.int .i64 a, .int .i64 ty] ∧ (Lit.int .i64 a).wf = true ∧ (Lit.int .i64 ty).wf = true := by
  obtain ⟨cs, rfl, hsz⟩ := okWide_struct Try.underlying84 hv
  obtain ⟨fuel, hf⟩ := h
  obtain ⟨a, ty, e, w_a, w_ty⟩ := open_change (cs := cs.toList) (by simpa [Value.cells] using hf)
  exact ⟨a, ty, by rw [← Array.toArray_toList (xs := cs), e], w_a, w_ty⟩
theorem cells_span : Try.prog.cellsOf 75 = 2 := by kernel_rfl
theorem open_span (h : DataW.trod enc Try.prog w base spare held fuel 75 cs = some x) : ∃ (fr : Int) (to : Int), cs = [.int .i64 fr, .int .i64 to] ∧ (Lit.int .i64 fr).wf = true ∧ (Lit.int .i64 to).wf = true := by
  obtain ⟨xs, n, _, _, hlen, hxl, hg⟩ := DataW.trod_struct Try.underlying75 h
  match cs, hlen.trans cells_span with
  | [c0, c1], _ =>
    obtain ⟨y0, h0⟩ : ∃ y, DataW.trod enc Try.prog w base spare held n 3 ((([c0, c1] : List Value).drop 0).take (Try.prog.cellsOf 3)) = some y := fld hg hxl 0 _ rfl
    rw [cells_int] at h0
    obtain ⟨fr, e0, _, w_fr⟩ := DataW.trod_int Try.underlying3 h0
    obtain ⟨y1, h1⟩ : ∃ y, DataW.trod enc Try.prog w base spare held n 3 ((([c0, c1] : List Value).drop 1).take (Try.prog.cellsOf 3)) = some y := fld hg hxl 1 _ rfl
    rw [cells_int] at h1
    obtain ⟨to, e1, _, w_to⟩ := DataW.trod_int Try.underlying3 h1
    simp only [List.drop_zero, List.drop_succ_cons, List.take_succ_cons, List.take_zero, List.cons.injEq, and_true] at e0 e1
    subst e0
    subst e1
    exact ⟨fr, to, rfl, w_fr, w_to⟩
theorem val_span {b0 : Nat} {v : Value} {d : DataW H} {p : List MemPlace} (hv : Value.okWide Try.prog w .any b0 75 v) (h : DataW.Trod enc Try.prog w base spare held 75 v d p) :
    ∃ (fr : Int) (to : Int), v = .agg #[.int .i64 fr, .int .i64 to] ∧ (Lit.int .i64 fr).wf = true ∧ (Lit.int .i64 to).wf = true := by
  obtain ⟨cs, rfl, hsz⟩ := okWide_struct Try.underlying75 hv
  obtain ⟨fuel, hf⟩ := h
  obtain ⟨fr, to, e, w_fr, w_to⟩ := open_span (cs := cs.toList) (by simpa [Value.cells] using hf)
  exact ⟨fr, to, by rw [← Array.toArray_toList (xs := cs), e], w_fr, w_to⟩
theorem cells_era : Try.prog.cellsOf 103 = 5 := by kernel_rfl
theorem open_era (h : DataW.trod enc Try.prog w base spare held fuel 103 cs = some x) : ∃ (off : Int) (rules : ByteArray) (sv : Int) (format : ByteArray) (un : Int), cs = [.int .i64 off, .string rules, .int .i64 sv, .string format, .int .i64 un] ∧ (Lit.int .i64 off).wf = true ∧ (Lit.int .i64 sv).wf = true ∧ (Lit.int .i64 un).wf = true ∧ rules.size ≤ maxLen ∧ format.size ≤ maxLen := by
  obtain ⟨xs, n, _, _, hlen, hxl, hg⟩ := DataW.trod_struct Try.underlying103 h
  match cs, hlen.trans cells_era with
  | [c0, c1, c2, c3, c4], _ =>
    obtain ⟨y0, h0⟩ : ∃ y, DataW.trod enc Try.prog w base spare held n 3 ((([c0, c1, c2, c3, c4] : List Value).drop 0).take (Try.prog.cellsOf 3)) = some y := fld hg hxl 0 _ rfl
    rw [cells_int] at h0
    obtain ⟨off, e0, _, w_off⟩ := DataW.trod_int Try.underlying3 h0
    obtain ⟨y1, h1⟩ : ∃ y, DataW.trod enc Try.prog w base spare held n 9 ((([c0, c1, c2, c3, c4] : List Value).drop 1).take (Try.prog.cellsOf 9)) = some y := fld hg hxl 1 _ rfl
    rw [cells_string] at h1
    obtain ⟨rules, e1, _, w_rules⟩ := DataW.trod_string Try.underlying9 h1
    obtain ⟨y2, h2⟩ : ∃ y, DataW.trod enc Try.prog w base spare held n 3 ((([c0, c1, c2, c3, c4] : List Value).drop 2).take (Try.prog.cellsOf 3)) = some y := fld hg hxl 2 _ rfl
    rw [cells_int] at h2
    obtain ⟨sv, e2, _, w_sv⟩ := DataW.trod_int Try.underlying3 h2
    obtain ⟨y3, h3⟩ : ∃ y, DataW.trod enc Try.prog w base spare held n 9 ((([c0, c1, c2, c3, c4] : List Value).drop 3).take (Try.prog.cellsOf 9)) = some y := fld hg hxl 3 _ rfl
    rw [cells_string] at h3
    obtain ⟨format, e3, _, w_format⟩ := DataW.trod_string Try.underlying9 h3
    obtain ⟨y4, h4⟩ : ∃ y, DataW.trod enc Try.prog w base spare held n 3 ((([c0, c1, c2, c3, c4] : List Value).drop 4).take (Try.prog.cellsOf 3)) = some y := fld hg hxl 4 _ rfl
    rw [cells_int] at h4
    obtain ⟨un, e4, _, w_un⟩ := DataW.trod_int Try.underlying3 h4
    simp only [List.drop_zero, List.drop_succ_cons, List.take_succ_cons, List.take_zero, List.cons.injEq, and_true] at e0 e1 e2 e3 e4
    subst e0
    subst e1
    subst e2
    subst e3
    subst e4
    exact ⟨off, rules, sv, format, un, rfl, w_off, w_sv, w_un, w_rules, w_format⟩
theorem val_era {b0 : Nat} {v : Value} {d : DataW H} {p : List MemPlace} (hv : Value.okWide Try.prog w .any b0 103 v) (h : DataW.Trod enc Try.prog w base spare held 103 v d p) :
    ∃ (off : Int) (rules : ByteArray) (sv : Int) (format : ByteArray) (un : Int), v = .agg #[.int .i64 off, .string rules, .int .i64 sv, .string format, .int .i64 un] ∧ (Lit.int .i64 off).wf = true ∧ (Lit.int .i64 sv).wf = true ∧ (Lit.int .i64 un).wf = true ∧ rules.size ≤ maxLen ∧ format.size ≤ maxLen := by
  obtain ⟨cs, rfl, hsz⟩ := okWide_struct Try.underlying103 hv
  obtain ⟨fuel, hf⟩ := h
  obtain ⟨off, rules, sv, format, un, e, w_off, w_sv, w_un, w_rules, w_format⟩ := open_era (cs := cs.toList) (by simpa [Value.cells] using hf)
  exact ⟨off, rules, sv, format, un, by rw [← Array.toArray_toList (xs := cs), e], w_off, w_sv, w_un, w_rules, w_format⟩
theorem cells_link : Try.prog.cellsOf 116 = 2 := by kernel_rfl
theorem open_link (h : DataW.trod enc Try.prog w base spare held fuel 116 cs = some x) : ∃ (name : ByteArray) (to : ByteArray), cs = [.string name, .string to] ∧ name.size ≤ maxLen ∧ to.size ≤ maxLen := by
  obtain ⟨xs, n, _, _, hlen, hxl, hg⟩ := DataW.trod_struct Try.underlying116 h
  match cs, hlen.trans cells_link with
  | [c0, c1], _ =>
    obtain ⟨y0, h0⟩ : ∃ y, DataW.trod enc Try.prog w base spare held n 9 ((([c0, c1] : List Value).drop 0).take (Try.prog.cellsOf 9)) = some y := fld hg hxl 0 _ rfl
    rw [cells_string] at h0
    obtain ⟨name, e0, _, w_name⟩ := DataW.trod_string Try.underlying9 h0
    obtain ⟨y1, h1⟩ : ∃ y, DataW.trod enc Try.prog w base spare held n 9 ((([c0, c1] : List Value).drop 1).take (Try.prog.cellsOf 9)) = some y := fld hg hxl 1 _ rfl
    rw [cells_string] at h1
    obtain ⟨to, e1, _, w_to⟩ := DataW.trod_string Try.underlying9 h1
    simp only [List.drop_zero, List.drop_succ_cons, List.take_succ_cons, List.take_zero, List.cons.injEq, and_true] at e0 e1
    subst e0
    subst e1
    exact ⟨name, to, rfl, w_name, w_to⟩
theorem val_link {b0 : Nat} {v : Value} {d : DataW H} {p : List MemPlace} (hv : Value.okWide Try.prog w .any b0 116 v) (h : DataW.Trod enc Try.prog w base spare held 116 v d p) :
    ∃ (name : ByteArray) (to : ByteArray), v = .agg #[.string name, .string to] ∧ name.size ≤ maxLen ∧ to.size ≤ maxLen := by
  obtain ⟨cs, rfl, hsz⟩ := okWide_struct Try.underlying116 hv
  obtain ⟨fuel, hf⟩ := h
  obtain ⟨name, to, e, w_name, w_to⟩ := open_link (cs := cs.toList) (by simpa [Value.cells] using hf)
  exact ⟨name, to, by rw [← Array.toArray_toList (xs := cs), e], w_name, w_to⟩
theorem cells_rite : Try.prog.cellsOf 55 = 4 := by kernel_rfl
theorem open_rite (h : DataW.trod enc Try.prog w base spare held fuel 55 cs = some x) : ∃ (mo : Int) (we : Int) (wd : Int) (a : Int), cs = [.int .i64 mo, .int .i64 we, .int .i64 wd, .int .i64 a] ∧ (Lit.int .i64 mo).wf = true ∧ (Lit.int .i64 we).wf = true ∧ (Lit.int .i64 wd).wf = true ∧ (Lit.int .i64 a).wf = true := by
  obtain ⟨xs, n, _, _, hlen, hxl, hg⟩ := DataW.trod_struct Try.underlying55 h
  match cs, hlen.trans cells_rite with
  | [c0, c1, c2, c3], _ =>
    obtain ⟨y0, h0⟩ : ∃ y, DataW.trod enc Try.prog w base spare held n 3 ((([c0, c1, c2, c3] : List Value).drop 0).take (Try.prog.cellsOf 3)) = some y := fld hg hxl 0 _ rfl
    rw [cells_int] at h0
    obtain ⟨mo, e0, _, w_mo⟩ := DataW.trod_int Try.underlying3 h0
    obtain ⟨y1, h1⟩ : ∃ y, DataW.trod enc Try.prog w base spare held n 3 ((([c0, c1, c2, c3] : List Value).drop 1).take (Try.prog.cellsOf 3)) = some y := fld hg hxl 1 _ rfl
    rw [cells_int] at h1
    obtain ⟨we, e1, _, w_we⟩ := DataW.trod_int Try.underlying3 h1
    obtain ⟨y2, h2⟩ : ∃ y, DataW.trod enc Try.prog w base spare held n 3 ((([c0, c1, c2, c3] : List Value).drop 2).take (Try.prog.cellsOf 3)) = some y := fld hg hxl 2 _ rfl
    rw [cells_int] at h2
    obtain ⟨wd, e2, _, w_wd⟩ := DataW.trod_int Try.underlying3 h2
    obtain ⟨y3, h3⟩ : ∃ y, DataW.trod enc Try.prog w base spare held n 3 ((([c0, c1, c2, c3] : List Value).drop 3).take (Try.prog.cellsOf 3)) = some y := fld hg hxl 3 _ rfl
    rw [cells_int] at h3
    obtain ⟨a, e3, _, w_a⟩ := DataW.trod_int Try.underlying3 h3
    simp only [List.drop_zero, List.drop_succ_cons, List.take_succ_cons, List.take_zero, List.cons.injEq, and_true] at e0 e1 e2 e3
    subst e0
    subst e1
    subst e2
    subst e3
    exact ⟨mo, we, wd, a, rfl, w_mo, w_we, w_wd, w_a⟩
theorem val_rite {b0 : Nat} {v : Value} {d : DataW H} {p : List MemPlace} (hv : Value.okWide Try.prog w .any b0 55 v) (h : DataW.Trod enc Try.prog w base spare held 55 v d p) :
    ∃ (mo : Int) (we : Int) (wd : Int) (a : Int), v = .agg #[.int .i64 mo, .int .i64 we, .int .i64 wd, .int .i64 a] ∧ (Lit.int .i64 mo).wf = true ∧ (Lit.int .i64 we).wf = true ∧ (Lit.int .i64 wd).wf = true ∧ (Lit.int .i64 a).wf = true := by
  obtain ⟨cs, rfl, hsz⟩ := okWide_struct Try.underlying55 hv
  obtain ⟨fuel, hf⟩ := h
  obtain ⟨mo, we, wd, a, e, w_mo, w_we, w_wd, w_a⟩ := open_rite (cs := cs.toList) (by simpa [Value.cells] using hf)
  exact ⟨mo, we, wd, a, by rw [← Array.toArray_toList (xs := cs), e], w_mo, w_we, w_wd, w_a⟩
theorem cells_posix : Try.prog.cellsOf 57 = 12 := by kernel_rfl
theorem open_posix (h : DataW.trod enc Try.prog w base spare held fuel 57 cs = some x) : ∃ (name : ByteArray) (off : Int) (also : ByteArray) (aoff : Int) (smo : Int) (swe : Int) (swd : Int) (sa : Int) (emo : Int) (ewe : Int) (ewd : Int) (ea : Int), cs = [.string name, .int .i64 off, .string also, .int .i64 aoff, .int .i64 smo, .int .i64 swe, .int .i64 swd, .int .i64 sa, .int .i64 emo, .int .i64 ewe, .int .i64 ewd, .int .i64 ea] ∧ (Lit.int .i64 off).wf = true ∧ (Lit.int .i64 aoff).wf = true ∧ (Lit.int .i64 smo).wf = true ∧ (Lit.int .i64 swe).wf = true ∧ (Lit.int .i64 swd).wf = true ∧ (Lit.int .i64 sa).wf = true ∧ (Lit.int .i64 emo).wf = true ∧ (Lit.int .i64 ewe).wf = true ∧ (Lit.int .i64 ewd).wf = true ∧ (Lit.int .i64 ea).wf = true ∧ name.size ≤ maxLen ∧ also.size ≤ maxLen := by
  obtain ⟨xs, n, _, _, hlen, hxl, hg⟩ := DataW.trod_struct Try.underlying57 h
  match cs, hlen.trans cells_posix with
  | [c0, c1, c2, c3, c4, c5, c6, c7, c8, c9, c10, c11], _ =>
    obtain ⟨y0, h0⟩ : ∃ y, DataW.trod enc Try.prog w base spare held n 9 ((([c0, c1, c2, c3, c4, c5, c6, c7, c8, c9, c10, c11] : List Value).drop 0).take (Try.prog.cellsOf 9)) = some y := fld hg hxl 0 _ rfl
    rw [cells_string] at h0
    obtain ⟨name, e0, _, w_name⟩ := DataW.trod_string Try.underlying9 h0
    obtain ⟨y1, h1⟩ : ∃ y, DataW.trod enc Try.prog w base spare held n 3 ((([c0, c1, c2, c3, c4, c5, c6, c7, c8, c9, c10, c11] : List Value).drop 1).take (Try.prog.cellsOf 3)) = some y := fld hg hxl 1 _ rfl
    rw [cells_int] at h1
    obtain ⟨off, e1, _, w_off⟩ := DataW.trod_int Try.underlying3 h1
    obtain ⟨y2, h2⟩ : ∃ y, DataW.trod enc Try.prog w base spare held n 9 ((([c0, c1, c2, c3, c4, c5, c6, c7, c8, c9, c10, c11] : List Value).drop 2).take (Try.prog.cellsOf 9)) = some y := fld hg hxl 2 _ rfl
    rw [cells_string] at h2
    obtain ⟨also, e2, _, w_also⟩ := DataW.trod_string Try.underlying9 h2
    obtain ⟨y3, h3⟩ : ∃ y, DataW.trod enc Try.prog w base spare held n 3 ((([c0, c1, c2, c3, c4, c5, c6, c7, c8, c9, c10, c11] : List Value).drop 3).take (Try.prog.cellsOf 3)) = some y := fld hg hxl 3 _ rfl
    rw [cells_int] at h3
    obtain ⟨aoff, e3, _, w_aoff⟩ := DataW.trod_int Try.underlying3 h3
    obtain ⟨y4, h4⟩ : ∃ y, DataW.trod enc Try.prog w base spare held n 55 ((([c0, c1, c2, c3, c4, c5, c6, c7, c8, c9, c10, c11] : List Value).drop 4).take (Try.prog.cellsOf 55)) = some y := fld hg hxl 4 _ rfl
    rw [cells_rite] at h4
    obtain ⟨smo, swe, swd, sa, e4, w_smo, w_swe, w_swd, w_sa⟩ := open_rite h4
    obtain ⟨y5, h5⟩ : ∃ y, DataW.trod enc Try.prog w base spare held n 55 ((([c0, c1, c2, c3, c4, c5, c6, c7, c8, c9, c10, c11] : List Value).drop 8).take (Try.prog.cellsOf 55)) = some y := fld hg hxl 5 _ rfl
    rw [cells_rite] at h5
    obtain ⟨emo, ewe, ewd, ea, e5, w_emo, w_ewe, w_ewd, w_ea⟩ := open_rite h5
    simp only [List.drop_zero, List.drop_succ_cons, List.take_succ_cons, List.take_zero, List.cons.injEq, and_true] at e0 e1 e2 e3 e4 e5
    subst e0
    subst e1
    subst e2
    subst e3
    obtain ⟨rfl, rfl, rfl, rfl⟩ := e4
    obtain ⟨rfl, rfl, rfl, rfl⟩ := e5
    exact ⟨name, off, also, aoff, smo, swe, swd, sa, emo, ewe, ewd, ea, rfl, w_off, w_aoff, w_smo, w_swe, w_swd, w_sa, w_emo, w_ewe, w_ewd, w_ea, w_name, w_also⟩
theorem val_posix {b0 : Nat} {v : Value} {d : DataW H} {p : List MemPlace} (hv : Value.okWide Try.prog w .any b0 57 v) (h : DataW.Trod enc Try.prog w base spare held 57 v d p) :
    ∃ (name : ByteArray) (off : Int) (also : ByteArray) (aoff : Int) (smo : Int) (swe : Int) (swd : Int) (sa : Int) (emo : Int) (ewe : Int) (ewd : Int) (ea : Int), v = .agg #[.string name, .int .i64 off, .string also, .int .i64 aoff, .int .i64 smo, .int .i64 swe, .int .i64 swd, .int .i64 sa, .int .i64 emo, .int .i64 ewe, .int .i64 ewd, .int .i64 ea] ∧ (Lit.int .i64 off).wf = true ∧ (Lit.int .i64 aoff).wf = true ∧ (Lit.int .i64 smo).wf = true ∧ (Lit.int .i64 swe).wf = true ∧ (Lit.int .i64 swd).wf = true ∧ (Lit.int .i64 sa).wf = true ∧ (Lit.int .i64 emo).wf = true ∧ (Lit.int .i64 ewe).wf = true ∧ (Lit.int .i64 ewd).wf = true ∧ (Lit.int .i64 ea).wf = true ∧ name.size ≤ maxLen ∧ also.size ≤ maxLen := by
  obtain ⟨cs, rfl, hsz⟩ := okWide_struct Try.underlying57 hv
  obtain ⟨fuel, hf⟩ := h
  obtain ⟨name, off, also, aoff, smo, swe, swd, sa, emo, ewe, ewd, ea, e, w_off, w_aoff, w_smo, w_swe, w_swd, w_sa, w_emo, w_ewe, w_ewd, w_ea, w_name, w_also⟩ := open_posix (cs := cs.toList) (by simpa [Value.cells] using hf)
  exact ⟨name, off, also, aoff, smo, swe, swd, sa, emo, ewe, ewd, ea, by rw [← Array.toArray_toList (xs := cs), e], w_off, w_aoff, w_smo, w_swe, w_swd, w_sa, w_emo, w_ewe, w_ewd, w_ea, w_name, w_also⟩
end
end Go.Proofs.Ytgnodiegippkeaa
