/- An argument that is a slice of structs: its elements' cells. -/
import Derived.Test.YtcoapllgpjjbcaaOpen
import Derived.Test.YtcoapllgpjjbcaaSl
import Derived.Test.YtcoapllgpjjbcaaTabW
import Derived.OpenShut
namespace Go.Proofs.Ytcoapllgpjjbcaa
open Go.ChangeShapes Go.WideShapes Go.ChangeAt Go.RowKit
set_option linter.unusedVariables false
theorem cell_lt {w : World} {a : Addr} {v : Value} (h : w.cell? a = some v) : a.block < w.heap.size := by
  rcases Nat.lt_or_ge a.block w.heap.size with hlt | hge
  · exact hlt
  · unfold World.cell? at h; rw [Array.getElem?_eq_none hge] at h; cases h
section
variable {H : Type} {enc : TypeId × Value → H} {P : Program} {w : World} {base : Nat} {spare : Nat → Bool} {held : Bool}
theorem open_sl {t e : TypeId} {n fuel : Nat} {cs : List Value} {x : DataW H × List MemPlace} (ht : P.underlying t = some (.slice e)) (hc : P.cellsOf e = n) (hn : 0 < n) (h : DataW.trod enc P w base spare held fuel t cs = some x) :
    ∃ (A : Option Addr) (cap : Nat) (xs : List (List Value)), cs = [.slice A xs.length cap] ∧ xs.length ≤ cap ∧ cap ≤ maxLen ∧ SlAt w w.heap.size n A xs ∧
      ∀ i, i < xs.length → ∃ (y : DataW H × List MemPlace) (m : Nat), DataW.trod enc P w base spare held m e (xs.getD i []) = some y := by
  rcases DataW.trod_slice ht h with ⟨h0, _⟩ | ⟨a, len, cap, elems, rest, m, _, h0, _, hb, hl, hm, hlen, hel, _⟩
  · exact ⟨none, 0, [], h0, by simp, by unfold maxLen; omega, SlAt.none_ _ _ _ _, fun i hi => absurd hi (by simp)⟩
  · subst hc
    have each : ∀ i, i < len → ∃ (c : List Value) (y : DataW H × List MemPlace), w.cells? base (a.add (i * P.cellsOf e)) (P.cellsOf e) = some c ∧ DataW.trod enc P w base spare held m e c = some y := by
      intro i hi
      have h1 := hel i hi
      rw [List.getElem?_eq_getElem (by omega)] at h1
      cases h2 : w.cells? base (a.add (i * P.cellsOf e)) (P.cellsOf e) with
      | none => rw [h2] at h1; cases h1
      | some c => rw [h2] at h1; exact ⟨c, _, rfl, h1⟩
    let f : Nat → List Value := fun i => ((w.cells? base (a.add (i * P.cellsOf e)) (P.cellsOf e)).getD [])
    have hf : ∀ i, i < len → ∃ (y : DataW H × List MemPlace), w.cells? base (a.add (i * P.cellsOf e)) (P.cellsOf e) = some (f i) ∧ DataW.trod enc P w base spare held m e (f i) = some y := by
      intro i hi
      obtain ⟨c, y, h1, h2⟩ := each i hi
      have : f i = c := by simp [f, h1]
      exact ⟨y, by rw [this]; exact h1, by rw [this]; exact h2⟩
    have hget : ∀ i, i < len → ((List.range len).map f).getD i [] = f i := by
      intro i hi
      simp [List.getD, hi]
    refine ⟨some a, cap, (List.range len).map f, by simpa using h0, by simpa using hl, hm, ?_, ?_⟩
    · intro hpos
      have hpos' : 0 < len := by simpa using hpos
      obtain ⟨y, h1, _⟩ := hf 0 hpos'
      obtain ⟨_, hcl, hat⟩ := World.cells?_some h1
      have h3 := hat 0 hn
      have hl0 : (f 0)[0]? = some ((f 0)[0]'(by omega)) := List.getElem?_eq_getElem (by omega)
      rw [hl0] at h3
      have hlt := cell_lt h3
      obtain ⟨b, off, spot⟩ := a
      have hspot : spot = none := by simpa [Addr.add] using World.cell?_spot h3
      subst hspot
      refine ⟨b, off, rfl, by simpa [Addr.add] using hlt, fun i hi j hj => ?_⟩
      have hi' : i < len := by simpa using hi
      obtain ⟨y, h1, _⟩ := hf i hi'
      obtain ⟨_, _, hat⟩ := World.cells?_some h1
      have h3 := hat j hj
      rw [hget i hi', ← h3, Go.WideShapes.add_plain, Go.WideShapes.add_plain]
    · intro i hi
      have hi' : i < len := by simpa using hi
      obtain ⟨y, _, h2⟩ := hf i hi'
      exact ⟨y, m, by rw [hget i hi']; exact h2⟩
end
theorem cells_table : Try.prog.cellsOf 25 = 3 := by kernel_rfl
theorem cells_sl_type : Try.prog.cellsOf 22 = 1 := by kernel_rfl
theorem cells_sl_change : Try.prog.cellsOf 23 = 1 := by kernel_rfl
theorem map_of {α : Type} (f : α → List Value) (xs : List (List Value)) (Q : α → Prop) (h : ∀ i, i < xs.length → ∃ a, xs.getD i [] = f a ∧ Q a) : ∃ l : List α, xs = l.map f ∧ ∀ a ∈ l, Q a := by
  induction xs with
  | nil => exact ⟨[], rfl, by simp⟩
  | cons x r ih =>
    obtain ⟨l, h1, h2⟩ := ih (fun i hi => by have := h (i + 1) (by simp; omega); simpa using this)
    obtain ⟨a, e, q⟩ := h 0 (by simp)
    refine ⟨a :: l, by simp [← h1]; simpa using e, fun b hb => ?_⟩
    rcases List.mem_cons.1 hb with rfl | hb
    · exact q
    · exact h2 b hb
set_option maxRecDepth 100000 in
theorem val_table {H : Type} {enc : TypeId × Value → H} {w : World} {base b0 : Nat} {spare : Nat → Bool} {held : Bool} {v : Value} {d : DataW H} {p : List MemPlace} (hv : Value.okWide Try.prog w .any b0 25 v) (h : DataW.Trod enc Try.prog w base spare held 25 v d p) :
    ∃ (A C : Option Addr) (capT capC : Nat) (ts : List Ty) (first : Int) (cs : List Ch), v = .agg #[.slice A ts.length capT, .int .i64 first, .slice C cs.length capC] ∧ TabAt w A C capT capC ts cs ∧ (Lit.int .i64 first).wf = true ∧ (∀ t ∈ ts, (Lit.int .i64 t.1).wf = true) ∧ (∀ c ∈ cs, (Lit.int .i64 c.1).wf = true ∧ (Lit.int .i64 c.2).wf = true) := by
  obtain ⟨cs0, rfl, hsz⟩ := okWide_struct Try.underlying25 hv
  obtain ⟨fuel, hf⟩ := h
  have hf : DataW.trod enc Try.prog w base spare held fuel 25 cs0.toList = some (d, p) := by simpa [Value.cells] using hf
  obtain ⟨xs, n, _, _, hlen, hxl, hg⟩ := DataW.trod_struct Try.underlying25 hf
  obtain ⟨l⟩ := cs0
  match l, hlen.trans cells_table with
  | [c0, c1, c2], _ =>
    obtain ⟨y0, h0⟩ : ∃ y, DataW.trod enc Try.prog w base spare held n 22 ((([c0, c1, c2] : List Value).drop 0).take (Try.prog.cellsOf 22)) = some y := fld hg hxl 0 _ rfl
    obtain ⟨y1, h1⟩ : ∃ y, DataW.trod enc Try.prog w base spare held n 3 ((([c0, c1, c2] : List Value).drop 1).take (Try.prog.cellsOf 3)) = some y := fld hg hxl 1 _ rfl
    obtain ⟨y2, h2⟩ : ∃ y, DataW.trod enc Try.prog w base spare held n 23 ((([c0, c1, c2] : List Value).drop 2).take (Try.prog.cellsOf 23)) = some y := fld hg hxl 2 _ rfl
    rw [cells_sl_type] at h0
    rw [cells_int] at h1
    rw [cells_sl_change] at h2
    obtain ⟨A, capT, xT, eT, lT, mT, sT, rT⟩ := open_sl Try.underlying22 cells_type (by omega) h0
    obtain ⟨first, e1, _, w1⟩ := DataW.trod_int Try.underlying3 h1
    obtain ⟨C, capC, xC, eC, lC, mC, sC, rC⟩ := open_sl Try.underlying23 cells_change (by omega) h2
    obtain ⟨ts, rfl, hts⟩ := map_of (α := Ty) tyCells xT (fun t => t.2.2.size ≤ maxLen ∧ (Lit.int .i64 t.1).wf = true) (fun i hi => by
      obtain ⟨y, m, hy⟩ := rT i hi
      obtain ⟨off, sv, name, e, wo, hs⟩ := open_type hy
      exact ⟨(off, sv, name), e, hs, wo⟩)
    obtain ⟨cs, rfl, hcs⟩ := map_of (α := Ch) chCells xC (fun c => (Lit.int .i64 c.1).wf = true ∧ (Lit.int .i64 c.2).wf = true) (fun i hi => by
      obtain ⟨y, m, hy⟩ := rC i hi
      obtain ⟨a, ty, e, wa, wt⟩ := open_change hy
      exact ⟨(a, ty), e, wa, wt⟩)
    simp only [List.drop_zero, List.drop_succ_cons, List.take_succ_cons, List.take_zero, List.cons.injEq, and_true, List.length_map] at eT e1 eC lT lC
    subst eT e1 eC
    exact ⟨A, C, capT, capC, ts, first, cs, rfl, ⟨sT, sC, lT, mT, lC, mC, fun t ht => (hts t ht).1⟩, w1, fun t ht => (hts t ht).2, hcs⟩
end Go.Proofs.Ytcoapllgpjjbcaa
