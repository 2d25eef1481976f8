/- Part 4 of the proof of TopWall: no condition; what its declarations say stands at each. -/
import Derived.Test.YthppifcggmdmoaaGreatDoorW03
import Derived.Test.YthppifcggmdmoaaGreatDoorW02
import Derived.Test.YthppifcggmdmoaaGreatDoorRows
import Derived.WalkKit
import Derived.ProofKit
import Derived.Carry
import Derived.Lib.SmallJoins
import Derived.OpenShut
namespace Go.Proofs.YthppifcggmdmoaaGreatDoor
set_option linter.unusedVariables false
abbrev Ty := Int × Bool × ByteArray
abbrev Ch := Int × Int
def tyCells (t : Ty) : List Value := [.int .i64 t.1, .bool t.2.1, .string t.2.2]
def chCells (c : Ch) : List Value := [.int .i64 c.1, .int .i64 c.2]
def typesE : List Ty → Int
 | [] => 0
 | t :: r => if ¬ (-75600 ≤ t.1 ∧ t.1 ≤ 75600) then 1 else if isAbbrB t.2.2.data.toList then typesE r else 3
def changesE (last : Int) : Option Int → List Ch → Int
 | _, [] => 0
 | p, c :: r =>
  if ¬ (-1099511627776 ≤ c.1 ∧ c.1 ≤ 1099511627776 ∧ 0 ≤ c.2 ∧ c.2 ≤ last) then 1
  else if (match p with | none => false | some q => decide (c.1 ≤ q)) then 5 else changesE last (some c.1) r
def tabE (ts : List Ty) (first : Int) (cs : List Ch) : Int :=
 if ts.length > 250 ∨ cs.length > 1000 then 2 else if ts.length = 0 then 5 else
 if typesE ts = 0 then if 0 ≤ first ∧ first ≤ ts.length - 1 then changesE (ts.length - 1) none cs else 1 else typesE ts
def prevAt (cs : List Ch) (k : Nat) : Option Int := if k = 0 then none else (cs[k - 1]?).map (·.1)
theorem tabE_large {ts : List Ty} {first : Int} {cs : List Ch} (h : ts.length > 250 ∨ cs.length > 1000) : tabE ts first cs = 2 := by rw [tabE, if_pos h]
theorem tabE_form {ts : List Ty} {first : Int} {cs : List Ch} (h : ¬ (ts.length > 250 ∨ cs.length > 1000)) (h2 : ts.length = 0) : tabE ts first cs = 5 := by rw [tabE, if_neg h, if_pos h2]
theorem tabE_types {ts : List Ty} {first : Int} {cs : List Ch} (h : ¬ (ts.length > 250 ∨ cs.length > 1000)) (h2 : ¬ ts.length = 0) (h3 : typesE ts ≠ 0) : tabE ts first cs = typesE ts := by rw [tabE, if_neg h, if_neg h2, if_neg h3]
theorem tabE_first {ts : List Ty} {first : Int} {cs : List Ch} (h : ¬ (ts.length > 250 ∨ cs.length > 1000)) (h2 : ¬ ts.length = 0) (h3 : typesE ts = 0) (h4 : ¬ (0 ≤ first ∧ first ≤ ts.length - 1)) : tabE ts first cs = 1 := by rw [tabE, if_neg h, if_neg h2, if_pos h3, if_neg h4]
theorem tabE_changes {ts : List Ty} {first : Int} {cs : List Ch} (h : ¬ (ts.length > 250 ∨ cs.length > 1000)) (h2 : ¬ ts.length = 0) (h3 : typesE ts = 0) (h4 : 0 ≤ first ∧ first ≤ ts.length - 1) : tabE ts first cs = changesE (ts.length - 1) none cs := by rw [tabE, if_neg h, if_neg h2, if_pos h3, if_pos h4]
theorem typesE_drop (ts : List Ty) (k : Nat) (h : k < ts.length) : typesE (ts.drop k) = if ¬ (-75600 ≤ ts[k].1 ∧ ts[k].1 ≤ 75600) then 1 else if isAbbrB ts[k].2.2.data.toList then typesE (ts.drop (k + 1)) else 3 := by
 rw [List.drop_eq_getElem_cons h]; rfl
theorem changesE_drop (last : Int) (cs : List Ch) (k : Nat) (h : k < cs.length) (p : Option Int) : changesE last p (cs.drop k) =
  if ¬ (-1099511627776 ≤ cs[k].1 ∧ cs[k].1 ≤ 1099511627776 ∧ 0 ≤ cs[k].2 ∧ cs[k].2 ≤ last) then 1
  else if (match p with | none => false | some q => decide (cs[k].1 ≤ q)) then 5 else changesE last (some cs[k].1) (cs.drop (k + 1)) := by
 rw [List.drop_eq_getElem_cons h]; rfl
theorem prevAt_succ (cs : List Ch) (k : Nat) (h : k < cs.length) : prevAt cs (k + 1) = some cs[k].1 := by
 simp [prevAt, h]
theorem ch_bad {last : Int} {cs : List Ch} {k : Nat} (h : k < cs.length) {p : Option Int} (hb : ¬ (-1099511627776 ≤ cs[k].1 ∧ cs[k].1 ≤ 1099511627776 ∧ 0 ≤ cs[k].2 ∧ cs[k].2 ≤ last)) : changesE last p (cs.drop k) = 1 := by
 rw [changesE_drop last cs k h p, if_pos hb]
theorem ch_form {last : Int} {cs : List Ch} {k : Nat} (h : k < cs.length) (h0 : 0 < k) (hb : -1099511627776 ≤ cs[k].1 ∧ cs[k].1 ≤ 1099511627776 ∧ 0 ≤ cs[k].2 ∧ cs[k].2 ≤ last) (hf : cs[k].1 ≤ (cs[k - 1]'(by omega)).1) : changesE last (prevAt cs k) (cs.drop k) = 5 := by
 have : prevAt cs k = some (cs[k - 1]'(by omega)).1 := by
  have := prevAt_succ cs (k - 1) (by omega); rwa [show k - 1 + 1 = k by omega] at this
 rw [changesE_drop last cs k h, this, if_neg (by simpa using hb), if_pos (by simpa using hf)]
theorem ch_next {last : Int} {cs : List Ch} {k : Nat} (h : k < cs.length) (hb : -1099511627776 ≤ cs[k].1 ∧ cs[k].1 ≤ 1099511627776 ∧ 0 ≤ cs[k].2 ∧ cs[k].2 ≤ last)
  (hf : ∀ h0 : 0 < k, ¬ cs[k].1 ≤ (cs[k - 1]'(by omega)).1) : changesE last (prevAt cs k) (cs.drop k) = changesE last (prevAt cs (k + 1)) (cs.drop (k + 1)) := by
 rw [changesE_drop last cs k h, if_neg (by simpa using hb), prevAt_succ cs k h]
 by_cases h0 : k = 0
 ·subst h0; rfl
 ·have : prevAt cs k = some (cs[k - 1]'(by omega)).1 := by
   have := prevAt_succ cs (k - 1) (by omega); rwa [show k - 1 + 1 = k by omega] at this
  rw [this, if_neg (by simpa using hf (by omega))]
end Go.Proofs.YthppifcggmdmoaaGreatDoor
namespace Go.Proofs.YthppifcggmdmoaaGreatDoor
open Go.RowKit
set_option linter.unusedVariables false
theorem ty_at {w : World} {B : Nat} {A : Option Addr} {ts : List Ty} (h : SlAt w B 3 A (ts.map tyCells)) {k : Nat} (hk : k < ts.length) :
  ∃ b o, A = some ⟨b, o, none⟩ ∧ b < B ∧ w.cell? ⟨b, o + k * 3, none⟩ = some (.int .i64 ts[k].1) ∧ w.cell? ⟨b, o + k * 3 + 1, none⟩ = some (.bool ts[k].2.1) ∧ w.cell? ⟨b, o + k * 3 + 2, none⟩ = some (.string ts[k].2.2) := by
 obtain ⟨b, o, h1, h2, h3⟩ := h (by simp; omega)
 have e : (ts.map tyCells).getD k [] = tyCells ts[k] := by simp [List.getD, hk]
 have h4 := h3 k (by simpa using hk)
 rw [e] at h4
 exact ⟨b, o, h1, h2, h4 0 (by omega), h4 1 (by omega), h4 2 (by omega)⟩
theorem ch_at {w : World} {B : Nat} {A : Option Addr} {cs : List Ch} (h : SlAt w B 2 A (cs.map chCells)) {k : Nat} (hk : k < cs.length) :
  ∃ b o, A = some ⟨b, o, none⟩ ∧ b < B ∧ w.cell? ⟨b, o + k * 2, none⟩ = some (.int .i64 cs[k].1) ∧ w.cell? ⟨b, o + k * 2 + 1, none⟩ = some (.int .i64 cs[k].2) := by
 obtain ⟨b, o, h1, h2, h3⟩ := h (by simp; omega)
 have e : (cs.map chCells).getD k [] = chCells cs[k] := by simp [List.getD, hk]
 have h4 := h3 k (by simpa using hk)
 rw [e] at h4
 exact ⟨b, o, h1, h2, h4 0 (by omega), h4 1 (by omega)⟩
structure TabAt (w : World) (A C : Option Addr) (capT capC : Nat) (ts : List Ty) (cs : List Ch) : Prop where
 T : SlAt w w.heap.size 3 A (ts.map tyCells)
 C : SlAt w w.heap.size 2 C (cs.map chCells)
 cT : ts.length ≤ capT
 mT : capT ≤ maxLen
 cC : cs.length ≤ capC
 mC : capC ≤ maxLen
 names : ∀ t ∈ ts, t.2.2.size ≤ maxLen
theorem TabAt.below {w w' : World} {A C : Option Addr} {capT capC : Nat} {ts : List Ty} {cs : List Ch} (h : TabAt w A C capT capC ts cs) (hb : Below w.heap.size w w') : TabAt w' A C capT capC ts cs :=
 ⟨(h.T.below hb).more hb.size, (h.C.below hb).more hb.size, h.cT, h.mT, h.cC, h.mC, h.names⟩
theorem TabAt.zero (w : World) : TabAt w none none 0 0 [] [] := ⟨SlAt.none_ _ _ _ _, SlAt.none_ _ _ _ _, by simp, by unfold maxLen; omega, by simp, by unfold maxLen; omega, by simp⟩
abbrev tabV (A C : Option Addr) (capT capC : Nat) (ts : List Ty) (first : Int) (cs : List Ch) : Value := .agg #[.slice A ts.length capT, .int .i64 first, .slice C cs.length capC]
end Go.Proofs.YthppifcggmdmoaaGreatDoor
namespace Go.Proofs.YthppifcggmdmoaaGreatDoor
open Go.ChangeShapes Go.WideShapes Go.ChangeAt Go.RowKit
set_option linter.unusedVariables false
set_option maxRecDepth 100000
theorem cells_int : Tryz.prog.cellsOf 3 = 1 := by kernel_rfl
theorem fld {H : Type} {enc : TypeId × Value → H} {P : Program} {w : World} {base : Nat} {spare : Nat → Bool} {held : Bool} {fs : Array Field} {cs : List Value} {xs : List (DataW H × List MemPlace)} {n : Nat}
  (hg : ∀ (i : Nat) (f : Field), fs[i]? = some f → DataW.trod enc P w base spare held n f.type ((cs.drop f.offset).take (P.cellsOf f.type)) = xs[i]?) (hl : xs.length = fs.size)
  (i : Nat) (f : Field) (hi : fs[i]? = some f) : ∃ y, DataW.trod enc P w base spare held n f.type ((cs.drop f.offset).take (P.cellsOf f.type)) = some y := by
 have h1 : i < fs.size := (Array.getElem?_eq_some_iff.1 hi).1
 exact ⟨xs[i]'(by omega), by rw [hg i f hi, List.getElem?_eq_getElem (by omega)]⟩
section
variable {H : Type} {enc : TypeId × Value → H} {w : World} {base : Nat} {spare : Nat → Bool} {held : Bool} {fuel : Nat} {cs : List Value} {x : DataW H × List MemPlace}
theorem cells_string : Tryz.prog.cellsOf 9 = 1 := by kernel_rfl
theorem cells_day : Tryz.prog.cellsOf 68 = 3 := by kernel_rfl
theorem open_day (h : DataW.trod enc Tryz.prog w base spare held fuel 68 cs = some x) : ∃ (k : Int) (wd : Int) (n : Int), cs = [.int .i64 k, .int .i64 wd, .int .i64 n] ∧ (Lit.int .i64 k).wf = true ∧ (Lit.int .i64 wd).wf = true ∧ (Lit.int .i64 n).wf = true := by
 obtain ⟨xs, n, _, _, hlen, hxl, hg⟩ := DataW.trod_struct Tryz.underlying68 h
 match cs, hlen.trans cells_day with
 | [c0, c1, c2], _ =>
  obtain ⟨y0, h0⟩ : ∃ y, DataW.trod enc Tryz.prog w base spare held n 3 ((([c0, c1, c2] : List Value).drop 0).take (Tryz.prog.cellsOf 3)) = some y := fld hg hxl 0 _ rfl
  rw [cells_int] at h0
  obtain ⟨k, e0, _, w_k⟩ := DataW.trod_int Tryz.underlying3 h0
  obtain ⟨y1, h1⟩ : ∃ y, DataW.trod enc Tryz.prog w base spare held n 3 ((([c0, c1, c2] : List Value).drop 1).take (Tryz.prog.cellsOf 3)) = some y := fld hg hxl 1 _ rfl
  rw [cells_int] at h1
  obtain ⟨wd, e1, _, w_wd⟩ := DataW.trod_int Tryz.underlying3 h1
  obtain ⟨y2, h2⟩ : ∃ y, DataW.trod enc Tryz.prog w base spare held n 3 ((([c0, c1, c2] : List Value).drop 2).take (Tryz.prog.cellsOf 3)) = some y := fld hg hxl 2 _ rfl
  rw [cells_int] at h2
  obtain ⟨n, e2, _, w_n⟩ := DataW.trod_int Tryz.underlying3 h2
  simp only [List.drop_zero, List.drop_succ_cons, List.take_succ_cons, List.take_zero, List.cons.injEq, and_true] at e0 e1 e2
  subst e0
  subst e1
  subst e2
  exact ⟨k, wd, n, rfl, w_k, w_wd, w_n⟩
theorem cells_rule : Tryz.prog.cellsOf 70 = 11 := by kernel_rfl
theorem open_rule (h : DataW.trod enc Tryz.prog w base spare held fuel 70 cs = some x) : ∃ (name : ByteArray) (f : Int) (t : Int) (m : Int) (onk : Int) (onwd : Int) (onn : Int) (a : Int) (b : Int) (sv : Int) (letter : ByteArray), cs = [.string name, .int .i64 f, .int .i64 t, .int .i64 m, .int .i64 onk, .int .i64 onwd, .int .i64 onn, .int .i64 a, .int .i64 b, .int .i64 sv, .string letter] ∧ (Lit.int .i64 f).wf = true ∧ (Lit.int .i64 t).wf = true ∧ (Lit.int .i64 m).wf = true ∧ (Lit.int .i64 onk).wf = true ∧ (Lit.int .i64 onwd).wf = true ∧ (Lit.int .i64 onn).wf = true ∧ (Lit.int .i64 a).wf = true ∧ (Lit.int .i64 b).wf = true ∧ (Lit.int .i64 sv).wf = true ∧ name.size ≤ maxLen ∧ letter.size ≤ maxLen := by
 obtain ⟨xs, n, _, _, hlen, hxl, hg⟩ := DataW.trod_struct Tryz.underlying70 h
 match cs, hlen.trans cells_rule with
 | [c0, c1, c2, c3, c4, c5, c6, c7, c8, c9, c10], _ =>
  obtain ⟨y0, h0⟩ : ∃ y, DataW.trod enc Tryz.prog w base spare held n 9 ((([c0, c1, c2, c3, c4, c5, c6, c7, c8, c9, c10] : List Value).drop 0).take (Tryz.prog.cellsOf 9)) = some y := fld hg hxl 0 _ rfl
  rw [cells_string] at h0
  obtain ⟨name, e0, _, w_name⟩ := DataW.trod_string Tryz.underlying9 h0
  obtain ⟨y1, h1⟩ : ∃ y, DataW.trod enc Tryz.prog w base spare held n 3 ((([c0, c1, c2, c3, c4, c5, c6, c7, c8, c9, c10] : List Value).drop 1).take (Tryz.prog.cellsOf 3)) = some y := fld hg hxl 1 _ rfl
  rw [cells_int] at h1
  obtain ⟨f, e1, _, w_f⟩ := DataW.trod_int Tryz.underlying3 h1
  obtain ⟨y2, h2⟩ : ∃ y, DataW.trod enc Tryz.prog w base spare held n 3 ((([c0, c1, c2, c3, c4, c5, c6, c7, c8, c9, c10] : List Value).drop 2).take (Tryz.prog.cellsOf 3)) = some y := fld hg hxl 2 _ rfl
  rw [cells_int] at h2
  obtain ⟨t, e2, _, w_t⟩ := DataW.trod_int Tryz.underlying3 h2
  obtain ⟨y3, h3⟩ : ∃ y, DataW.trod enc Tryz.prog w base spare held n 3 ((([c0, c1, c2, c3, c4, c5, c6, c7, c8, c9, c10] : List Value).drop 3).take (Tryz.prog.cellsOf 3)) = some y := fld hg hxl 3 _ rfl
  rw [cells_int] at h3
  obtain ⟨m, e3, _, w_m⟩ := DataW.trod_int Tryz.underlying3 h3
  obtain ⟨y4, h4⟩ : ∃ y, DataW.trod enc Tryz.prog w base spare held n 68 ((([c0, c1, c2, c3, c4, c5, c6, c7, c8, c9, c10] : List Value).drop 4).take (Tryz.prog.cellsOf 68)) = some y := fld hg hxl 4 _ rfl
  rw [cells_day] at h4
  obtain ⟨onk, onwd, onn, e4, w_onk, w_onwd, w_onn⟩ := open_day h4
  obtain ⟨y5, h5⟩ : ∃ y, DataW.trod enc Tryz.prog w base spare held n 3 ((([c0, c1, c2, c3, c4, c5, c6, c7, c8, c9, c10] : List Value).drop 7).take (Tryz.prog.cellsOf 3)) = some y := fld hg hxl 5 _ rfl
  rw [cells_int] at h5
  obtain ⟨a, e5, _, w_a⟩ := DataW.trod_int Tryz.underlying3 h5
  obtain ⟨y6, h6⟩ : ∃ y, DataW.trod enc Tryz.prog w base spare held n 3 ((([c0, c1, c2, c3, c4, c5, c6, c7, c8, c9, c10] : List Value).drop 8).take (Tryz.prog.cellsOf 3)) = some y := fld hg hxl 6 _ rfl
  rw [cells_int] at h6
  obtain ⟨b, e6, _, w_b⟩ := DataW.trod_int Tryz.underlying3 h6
  obtain ⟨y7, h7⟩ : ∃ y, DataW.trod enc Tryz.prog w base spare held n 3 ((([c0, c1, c2, c3, c4, c5, c6, c7, c8, c9, c10] : List Value).drop 9).take (Tryz.prog.cellsOf 3)) = some y := fld hg hxl 7 _ rfl
  rw [cells_int] at h7
  obtain ⟨sv, e7, _, w_sv⟩ := DataW.trod_int Tryz.underlying3 h7
  obtain ⟨y8, h8⟩ : ∃ y, DataW.trod enc Tryz.prog w base spare held n 9 ((([c0, c1, c2, c3, c4, c5, c6, c7, c8, c9, c10] : List Value).drop 10).take (Tryz.prog.cellsOf 9)) = some y := fld hg hxl 8 _ rfl
  rw [cells_string] at h8
  obtain ⟨letter, e8, _, w_letter⟩ := DataW.trod_string Tryz.underlying9 h8
  simp only [List.drop_zero, List.drop_succ_cons, List.take_succ_cons, List.take_zero, List.cons.injEq, and_true] at e0 e1 e2 e3 e4 e5 e6 e7 e8
  subst e0
  subst e1
  subst e2
  subst e3
  obtain ⟨rfl, rfl, rfl⟩ := e4
  subst e5
  subst e6
  subst e7
  subst e8
  exact ⟨name, f, t, m, onk, onwd, onn, a, b, sv, letter, rfl, w_f, w_t, w_m, w_onk, w_onwd, w_onn, w_a, w_b, w_sv, w_name, w_letter⟩
theorem cells_era : Tryz.prog.cellsOf 80 = 5 := by kernel_rfl
theorem open_era (h : DataW.trod enc Tryz.prog w base spare held fuel 80 cs = some x) : ∃ (off : Int) (rules : ByteArray) (sv : Int) (format : ByteArray) (un : Int), cs = [.int .i64 off, .string rules, .int .i64 sv, .string format, .int .i64 un] ∧ (Lit.int .i64 off).wf = true ∧ (Lit.int .i64 sv).wf = true ∧ (Lit.int .i64 un).wf = true ∧ rules.size ≤ maxLen ∧ format.size ≤ maxLen := by
 obtain ⟨xs, n, _, _, hlen, hxl, hg⟩ := DataW.trod_struct Tryz.underlying80 h
 match cs, hlen.trans cells_era with
 | [c0, c1, c2, c3, c4], _ =>
  obtain ⟨y0, h0⟩ : ∃ y, DataW.trod enc Tryz.prog w base spare held n 3 ((([c0, c1, c2, c3, c4] : List Value).drop 0).take (Tryz.prog.cellsOf 3)) = some y := fld hg hxl 0 _ rfl
  rw [cells_int] at h0
  obtain ⟨off, e0, _, w_off⟩ := DataW.trod_int Tryz.underlying3 h0
  obtain ⟨y1, h1⟩ : ∃ y, DataW.trod enc Tryz.prog w base spare held n 9 ((([c0, c1, c2, c3, c4] : List Value).drop 1).take (Tryz.prog.cellsOf 9)) = some y := fld hg hxl 1 _ rfl
  rw [cells_string] at h1
  obtain ⟨rules, e1, _, w_rules⟩ := DataW.trod_string Tryz.underlying9 h1
  obtain ⟨y2, h2⟩ : ∃ y, DataW.trod enc Tryz.prog w base spare held n 3 ((([c0, c1, c2, c3, c4] : List Value).drop 2).take (Tryz.prog.cellsOf 3)) = some y := fld hg hxl 2 _ rfl
  rw [cells_int] at h2
  obtain ⟨sv, e2, _, w_sv⟩ := DataW.trod_int Tryz.underlying3 h2
  obtain ⟨y3, h3⟩ : ∃ y, DataW.trod enc Tryz.prog w base spare held n 9 ((([c0, c1, c2, c3, c4] : List Value).drop 3).take (Tryz.prog.cellsOf 9)) = some y := fld hg hxl 3 _ rfl
  rw [cells_string] at h3
  obtain ⟨format, e3, _, w_format⟩ := DataW.trod_string Tryz.underlying9 h3
  obtain ⟨y4, h4⟩ : ∃ y, DataW.trod enc Tryz.prog w base spare held n 3 ((([c0, c1, c2, c3, c4] : List Value).drop 4).take (Tryz.prog.cellsOf 3)) = some y := fld hg hxl 4 _ rfl
  rw [cells_int] at h4
  obtain ⟨un, e4, _, w_un⟩ := DataW.trod_int Tryz.underlying3 h4
  simp only [List.drop_zero, List.drop_succ_cons, List.take_succ_cons, List.take_zero, List.cons.injEq, and_true] at e0 e1 e2 e3 e4
  subst e0
  subst e1
  subst e2
  subst e3
  subst e4
  exact ⟨off, rules, sv, format, un, rfl, w_off, w_sv, w_un, w_rules, w_format⟩
theorem cells_link : Tryz.prog.cellsOf 77 = 2 := by kernel_rfl
theorem open_link (h : DataW.trod enc Tryz.prog w base spare held fuel 77 cs = some x) : ∃ (name : ByteArray) (to : ByteArray), cs = [.string name, .string to] ∧ name.size ≤ maxLen ∧ to.size ≤ maxLen := by
 obtain ⟨xs, n, _, _, hlen, hxl, hg⟩ := DataW.trod_struct Tryz.underlying77 h
 match cs, hlen.trans cells_link with
 | [c0, c1], _ =>
  obtain ⟨y0, h0⟩ : ∃ y, DataW.trod enc Tryz.prog w base spare held n 9 ((([c0, c1] : List Value).drop 0).take (Tryz.prog.cellsOf 9)) = some y := fld hg hxl 0 _ rfl
  rw [cells_string] at h0
  obtain ⟨name, e0, _, w_name⟩ := DataW.trod_string Tryz.underlying9 h0
  obtain ⟨y1, h1⟩ : ∃ y, DataW.trod enc Tryz.prog w base spare held n 9 ((([c0, c1] : List Value).drop 1).take (Tryz.prog.cellsOf 9)) = some y := fld hg hxl 1 _ rfl
  rw [cells_string] at h1
  obtain ⟨to, e1, _, w_to⟩ := DataW.trod_string Tryz.underlying9 h1
  simp only [List.drop_zero, List.drop_succ_cons, List.take_succ_cons, List.take_zero, List.cons.injEq, and_true] at e0 e1
  subst e0
  subst e1
  exact ⟨name, to, rfl, w_name, w_to⟩
end
end Go.Proofs.YthppifcggmdmoaaGreatDoor
namespace Go.Proofs.YthppifcggmdmoaaGreatDoor
open Go.ChangeShapes Go.WideShapes Go.ChangeAt Go.RowKit
set_option linter.unusedVariables false
theorem cell_lt {w : World} {a : Addr} {v : Value} (h : w.cell? a = some v) : a.block < w.heap.size := by
 rcases Nat.lt_or_ge a.block w.heap.size with hlt | hge
 ·exact hlt
 ·unfold World.cell? at h; rw [Array.getElem?_eq_none hge] at h; cases h
section
variable {H : Type} {enc : TypeId × Value → H} {P : Program} {w : World} {base : Nat} {spare : Nat → Bool} {held : Bool}
theorem open_sl {t e : TypeId} {n fuel : Nat} {cs : List Value} {x : DataW H × List MemPlace} (ht : P.underlying t = some (.slice e)) (hc : P.cellsOf e = n) (hn : 0 < n) (h : DataW.trod enc P w base spare held fuel t cs = some x) :
  ∃ (A : Option Addr) (cap : Nat) (xs : List (List Value)), cs = [.slice A xs.length cap] ∧ xs.length ≤ cap ∧ cap ≤ maxLen ∧ SlAt w w.heap.size n A xs ∧
   ∀ i, i < xs.length → ∃ (y : DataW H × List MemPlace) (m : Nat), DataW.trod enc P w base spare held m e (xs.getD i []) = some y := by
 rcases DataW.trod_slice ht h with ⟨h0, _⟩ | ⟨a, len, cap, elems, rest, m, _, h0, _, hb, hl, hm, hlen, hel, _⟩
 ·exact ⟨none, 0, [], h0, by simp, by unfold maxLen; omega, SlAt.none_ _ _ _ _, fun i hi => absurd hi (by simp)⟩
 ·subst hc
  have each : ∀ i, i < len → ∃ (c : List Value) (y : DataW H × List MemPlace), w.cells? base (a.add (i * P.cellsOf e)) (P.cellsOf e) = some c ∧ DataW.trod enc P w base spare held m e c = some y := by
   intro i hi
   have h1 := hel i hi
   rw [List.getElem?_eq_getElem (by omega)] at h1
   cases h2 : w.cells? base (a.add (i * P.cellsOf e)) (P.cellsOf e) with
   | none => rw [h2] at h1; cases h1
   | some c => rw [h2] at h1; exact ⟨c, _, rfl, h1⟩
  let f : Nat → List Value := fun i => ((w.cells? base (a.add (i * P.cellsOf e)) (P.cellsOf e)).getD [])
  have hf : ∀ i, i < len → ∃ (y : DataW H × List MemPlace), w.cells? base (a.add (i * P.cellsOf e)) (P.cellsOf e) = some (f i) ∧ DataW.trod enc P w base spare held m e (f i) = some y := by
   intro i hi
   obtain ⟨c, y, h1, h2⟩ := each i hi
   have : f i = c := by simp [f, h1]
   exact ⟨y, by rw [this]; exact h1, by rw [this]; exact h2⟩
  have hget : ∀ i, i < len → ((List.range len).map f).getD i [] = f i := by
   intro i hi
   simp [List.getD, hi]
  refine ⟨some a, cap, (List.range len).map f, by simpa using h0, by simpa using hl, hm, ?_, ?_⟩
  ·intro hpos
   have hpos' : 0 < len := by simpa using hpos
   obtain ⟨y, h1, _⟩ := hf 0 hpos'
   obtain ⟨_, hcl, hat⟩ := World.cells?_some h1
   have h3 := hat 0 hn
   have hl0 : (f 0)[0]? = some ((f 0)[0]'(by omega)) := List.getElem?_eq_getElem (by omega)
   rw [hl0] at h3
   have hlt := cell_lt h3
   obtain ⟨b, off, spot⟩ := a
   have hspot : spot = none := by simpa [Addr.add] using World.cell?_spot h3
   subst hspot
   refine ⟨b, off, rfl, by simpa [Addr.add] using hlt, fun i hi j hj => ?_⟩
   have hi' : i < len := by simpa using hi
   obtain ⟨y, h1, _⟩ := hf i hi'
   obtain ⟨_, _, hat⟩ := World.cells?_some h1
   have h3 := hat j hj
   rw [hget i hi', ← h3, Go.WideShapes.add_plain, Go.WideShapes.add_plain]
  ·intro i hi
   have hi' : i < len := by simpa using hi
   obtain ⟨y, _, h2⟩ := hf i hi'
   exact ⟨y, m, by rw [hget i hi']; exact h2⟩
end
end Go.Proofs.YthppifcggmdmoaaGreatDoor
namespace Go.Proofs.YthppifcggmdmoaaGreatDoor
open Go.ChangeShapes Go.WideShapes Go.ChangeAt Go.RowKit
set_option linter.unusedVariables false
theorem own : ownKnob Tryz.prog.godebug = none := by kernel_rfl
theorem laidOut : laidOutB Tryz.prog = true := by kernel_rfl

theorem trodAll_below {H : Type} {enc : TypeId × Value → H} {P : Program} (hl : laidOutB P = true) {W W' : World} (hb : Below W.heap.size W W') :
    ∀ (ts : List TypeId) (vs : List Value) (ds : List (DataW H)) (ps : List MemPlace), (∀ t ∈ ts, P.readableRec t = true ∧ t < P.types.size) →
      DataW.TrodAll enc P W 0 (fun _ => true) true ts vs ds ps → (∀ x ∈ ps, x.block < W.heap.size) → DataW.TrodAll enc P W' 0 (fun b => decide (b < W.heap.size)) true ts vs ds ps
  | [], [], [], ps, _, h, _ => h
  | t :: ts, v :: vs, d :: ds, ps, hr, h, hlt => by
      obtain ⟨p, q, h1, h2, rfl⟩ := h
      exact ⟨p, q, Below.trod hl (hr t (by simp)).1 (hr t (by simp)).2 h1 hb (fun x hx => hlt x (by simp [hx])),
        trodAll_below hl hb ts vs ds q (fun t ht => hr t (by simp [ht])) h2 (fun x hx => hlt x (by simp [hx])), rfl⟩
  | [], _ :: _, _, _, _, h, _ => h.elim
  | [], [], _ :: _, _, _, h, _ => h.elim
  | _ :: _, [], _, _, _, h, _ => h.elim
  | _ :: _, _ :: _, [], _, _, h, _ => h.elim

theorem law_post {H : Type} {enc : TypeId × Value → H} {f : Func} {s : ChangeSpec} {W W' : World} {args : Array Value} {ds gs : List (DataW H)} {before : List MemPlace}
  (hv : s.vars = []) (hW : DataW.Whole enc Tryz.prog f.params.toList s.vars false W args.toList ds gs before)
  (hres : f.resultTypes = #[4]) (hfn : (s.fn H (ds ++ gs)).results = [.lit (.bool true)]) (hfa : (s.fn H (ds ++ gs)).args = ds) (hfv : (s.fn H (ds ++ gs)).vars = [])
  (hr : ∀ t ∈ f.params.toList, Tryz.prog.readableRec t = true ∧ t < Tryz.prog.types.size) (hb : Below W.heap.size W W') :
  s.post enc Tryz.prog f false true false false W args (.bool true) W' := by
 have hWk := hW
 obtain ⟨p, q, hA, hV, rfl, hfz, hnd⟩ := hW
 rw [hv] at hV
 have hlt : ∀ x ∈ p, x.block < W.heap.size := fun x hx => by simpa using hWk.lt x (by simp [hx])
 refine ⟨ds, gs, _, [], p, [], hWk, ?_, ?_, ?_, hb.frame _, fun h => by cases h⟩
 ·rw [hfn, hres]; exact trodAll_mk1 (shut_bool Tryz.underlying4 true)
 ·rw [hfa]; exact trodAll_below laidOut hb _ _ _ _ hr hA hlt
 ·rw [hfv, hv]; rfl
end Go.Proofs.YthppifcggmdmoaaGreatDoor

