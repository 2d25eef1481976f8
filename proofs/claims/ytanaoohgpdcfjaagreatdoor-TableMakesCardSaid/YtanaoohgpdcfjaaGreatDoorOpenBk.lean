/- An argument that is a book. -/
import Derived.Test.YtanaoohgpdcfjaaGreatDoorOpn
import Derived.Test.YtanaoohgpdcfjaaGreatDoorBcP
namespace Go.Proofs.YtanaoohgpdcfjaaGreatDoor
open Go.ChangeShapes Go.WideShapes Go.ChangeAt Go.RowKit
set_option linter.unusedVariables false
theorem wfb {n : Int} (h : (Lit.int .i64 n).wf = true) : wf63 n := by
  unfold wf63
  simp [Lit.wf, IntKind.min, IntKind.max, IntKind.signed, IntKind.bits] at h; omega
theorem map_ofB {α : Type} (f : α → List Value) (xs : List (List Value)) (Q : α → Prop) (h : ∀ i, i < xs.length → ∃ a, xs.getD i [] = f a ∧ Q a) : ∃ l : List α, xs = l.map f ∧ ∀ a ∈ l, Q a := by
  induction xs with
  | nil => exact ⟨[], rfl, by simp⟩
  | cons x r ih =>
    obtain ⟨l, h1, h2⟩ := ih (fun i hi => by have := h (i + 1) (by simp; omega); simpa using this)
    obtain ⟨a, e, q⟩ := h 0 (by simp)
    refine ⟨a :: l, by simp [← h1]; simpa using e, fun b hb => ?_⟩
    rcases List.mem_cons.1 hb with rfl | hb
    · exact q
    · exact h2 b hb
theorem cells_zone : Tryz.prog.cellsOf 74 = 2 := by kernel_rfl
theorem cells_book : Tryz.prog.cellsOf 26 = 3 := by kernel_rfl
theorem cells_sl_era : Tryz.prog.cellsOf 72 = 1 := by kernel_rfl
theorem cells_sl_rule : Tryz.prog.cellsOf 22 = 1 := by kernel_rfl
theorem cells_sl_zone : Tryz.prog.cellsOf 23 = 1 := by kernel_rfl
theorem cells_sl_link : Tryz.prog.cellsOf 24 = 1 := by kernel_rfl
section
variable {H : Type} {enc : TypeId × Value → H} {w : World} {base : Nat} {spare : Nat → Bool} {held : Bool} {fuel : Nat} {cs : List Value} {x : DataW H × List MemPlace}
set_option maxRecDepth 100000 in
theorem open_zone (h : DataW.trod enc Tryz.prog w base spare held fuel 74 cs = some x) : ∃ z : ZoT, cs = zoC z ∧ zoOk w w.heap.size z := by
  obtain ⟨xs, n, _, _, hlen, hxl, hg⟩ := DataW.trod_struct Tryz.underlying74 h
  match cs, hlen.trans cells_zone with
  | [c0, c1], _ =>
    obtain ⟨y0, h0⟩ : ∃ y, DataW.trod enc Tryz.prog w base spare held n 9 ((([c0, c1] : List Value).drop 0).take (Tryz.prog.cellsOf 9)) = some y := fld hg hxl 0 _ rfl
    obtain ⟨y1, h1⟩ : ∃ y, DataW.trod enc Tryz.prog w base spare held n 72 ((([c0, c1] : List Value).drop 1).take (Tryz.prog.cellsOf 72)) = some y := fld hg hxl 1 _ rfl
    rw [cells_string] at h0
    rw [cells_sl_era] at h1
    obtain ⟨nm, e0, _, w0⟩ := DataW.trod_string Tryz.underlying9 h0
    obtain ⟨A, cap, xE, eE, lE, mE, sE, rE⟩ := open_sl Tryz.underlying72 cells_era (by omega) h1
    obtain ⟨es, rfl, hes⟩ := map_ofB (α := ErT) erC xE erOk (fun i hi => by
      obtain ⟨y, m, hy⟩ := rE i hi
      obtain ⟨off, rules, sv, format, un, e, w1, w2, w3, s1, s2⟩ := open_era hy
      exact ⟨⟨off, rules, sv, format, un⟩, e, s1, s2, wfb w1, wfb w2, wfb w3⟩)
    simp only [List.drop_zero, List.drop_succ_cons, List.take_succ_cons, List.take_zero, List.cons.injEq, and_true, List.length_map] at e0 eE lE
    subst e0 eE
    exact ⟨⟨nm, A, cap, es⟩, rfl, w0, sE, lE, mE, hes⟩
end
set_option maxRecDepth 100000 in
theorem val_book {H : Type} {enc : TypeId × Value → H} {w : World} {base b0 : Nat} {spare : Nat → Bool} {held : Bool} {v : Value} {d : DataW H} {p : List MemPlace} (hv : Value.okWide Tryz.prog w .any b0 26 v) (h : DataW.Trod enc Tryz.prog w base spare held 26 v d p) :
    ∃ D : BkD, v = .agg D.v ∧ BkOk w w.heap.size D := by
  obtain ⟨cs0, rfl, hsz⟩ := okWide_struct Tryz.underlying26 hv
  obtain ⟨fuel, hf⟩ := h
  have hf : DataW.trod enc Tryz.prog w base spare held fuel 26 cs0.toList = some (d, p) := by simpa [Value.cells] using hf
  obtain ⟨xs, n, _, _, hlen, hxl, hg⟩ := DataW.trod_struct Tryz.underlying26 hf
  obtain ⟨l⟩ := cs0
  match l, hlen.trans cells_book with
  | [c0, c1, c2], _ =>
    obtain ⟨y0, h0⟩ : ∃ y, DataW.trod enc Tryz.prog w base spare held n 22 ((([c0, c1, c2] : List Value).drop 0).take (Tryz.prog.cellsOf 22)) = some y := fld hg hxl 0 _ rfl
    obtain ⟨y1, h1⟩ : ∃ y, DataW.trod enc Tryz.prog w base spare held n 23 ((([c0, c1, c2] : List Value).drop 1).take (Tryz.prog.cellsOf 23)) = some y := fld hg hxl 1 _ rfl
    obtain ⟨y2, h2⟩ : ∃ y, DataW.trod enc Tryz.prog w base spare held n 24 ((([c0, c1, c2] : List Value).drop 2).take (Tryz.prog.cellsOf 24)) = some y := fld hg hxl 2 _ rfl
    rw [cells_sl_rule] at h0
    rw [cells_sl_zone] at h1
    rw [cells_sl_link] at h2
    obtain ⟨AR, cR, xR, eR, lR, mR, sR, rR⟩ := open_sl Tryz.underlying22 cells_rule (by omega) h0
    obtain ⟨AZ, cZ, xZ, eZ, lZ, mZ, sZ, rZ⟩ := open_sl Tryz.underlying23 cells_zone (by omega) h1
    obtain ⟨AL, cL, xL, eL, lL, mL, sL, rL⟩ := open_sl Tryz.underlying24 cells_link (by omega) h2
    obtain ⟨rs, rfl, hrs⟩ := map_ofB (α := RuT) ruC xR ruOk (fun i hi => by
      obtain ⟨y, m, hy⟩ := rR i hi
      obtain ⟨name, f, t, mo, k, wd, nn, a, b, sv, letter, e, w1, w2, w3, w4, w5, w6, w7, w8, w9, s1, s2⟩ := open_rule hy
      exact ⟨⟨name, f, t, mo, k, wd, nn, a, b, sv, letter⟩, e, s1, s2, wfb w1, wfb w2, wfb w3, wfb w4, wfb w5, wfb w6, wfb w7, wfb w8, wfb w9⟩)
    obtain ⟨zs, rfl, hzs⟩ := map_ofB (α := ZoT) zoC xZ (zoOk w w.heap.size) (fun i hi => by
      obtain ⟨y, m, hy⟩ := rZ i hi
      exact open_zone hy)
    obtain ⟨ls, rfl, hls⟩ := map_ofB (α := LkT) lkC xL (fun x => x.1.size ≤ maxLen ∧ x.2.size ≤ maxLen) (fun i hi => by
      obtain ⟨y, m, hy⟩ := rL i hi
      obtain ⟨name, to, e, s1, s2⟩ := open_link hy
      exact ⟨(name, to), e, s1, s2⟩)
    simp only [List.drop_zero, List.drop_succ_cons, List.take_succ_cons, List.take_zero, List.cons.injEq, and_true, List.length_map] at eR eZ eL lR lZ lL
    subst eR eZ eL
    exact ⟨⟨AR, AZ, AL, cR, cZ, cL, rs, zs, ls⟩, rfl, ⟨sR, sZ, sL, lR, lZ, lL, mR, mZ, mL, hrs, hzs, hls⟩⟩
end Go.Proofs.YtanaoohgpdcfjaaGreatDoor
