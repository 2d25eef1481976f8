/- Boxes behind stores, and what the end of Book leaves. -/
import Derived.Test.YtgnodiegippkeaaRbC
import Derived.Deep.AppendLies
import Derived.Laws.OwnMore
namespace Go.Proofs.Ytgnodiegippkeaa
open Go.RowKit
set_option linter.unusedVariables false
/-- a box behind a store into one of its cells -/
theorem Bx.set {W : World} {g i : Nat} {cs : Array Value} {v u : Value} (h : Bx g W cs) (hu : cs[i]? = some u) : Bx g (W.setCell ⟨g, i, none⟩ v) (cs.setIfInBounds i v) := by
  refine ⟨fun j => ?_, fun j => ?_, by simpa using h.2.2⟩
  · by_cases e : j = i
    · subst e
      rw [World.cell?_setCell_same _ _ _ ((h.1 j).trans hu)]
      have hj : j < cs.size := by
        rcases Nat.lt_or_ge j cs.size with hh | hh
        · exact hh
        · rw [Array.getElem?_eq_none hh] at hu; cases hu
      simp [hj]
    · rw [World.cell?_setCell_other _ _ _ _ (by simp <;> omega), h.1 j]
      rw [Array.getElem?_setIfInBounds_ne (by omega)]
  · rw [World.frozen?_setCell]; exact h.2.1 j
/-- a box behind a store into another -/
theorem Bx.far {W : World} {g g' i : Nat} {cs : Array Value} {v : Value} (h : Bx g W cs) (hg : g' ≠ g) : Bx g (W.setCell ⟨g', i, none⟩ v) cs := by
  refine ⟨fun j => ?_, fun j => ?_, by simpa using h.2.2⟩
  · rw [World.cell?_setCell_other _ _ _ _ (by simp <;> omega), h.1 j]
  · rw [World.frozen?_setCell]; exact h.2.1 j
theorem Bx.set3 {W : World} {g : Nat} {x y z u0 u1 u2 : Value} (h : Bx g W #[u0, u1, u2]) : Bx g (((W.setCell ⟨g, 0, none⟩ x).setCell ⟨g, 1, none⟩ y).setCell ⟨g, 2, none⟩ z) #[x, y, z] :=
  ((h.set (i := 0) (u := u0) rfl).set (i := 1) (u := u1) rfl).set (i := 2) (u := u2) rfl
/-- the end of a book: the era and the zone are made; the rules lie where they lay -/
theorem bk_end {U : World} {rs : List RuT} {nm : ByteArray} {er : ErT} {A : Option Addr} {ca : Nat} {t1 t2 : TypeId} (hsl : SlAt U U.heap.size 11 A (rs.map ruC)) (a1 : rs.length ≤ ca) (a2 : ca ≤ maxLen) :
    BkOk ((U.alloc (.cells (erC er).toArray t1)).alloc (.cells #[.string nm, .slice (some ⟨U.heap.size, 0, none⟩) 1 1] t2)) rs nm er A ca (U.heap.size + 1) 1 (some ⟨U.heap.size, 0, none⟩) 1 := by
  obtain ⟨g1, g2, _, g5, gb⟩ := boxes2 U (erC er).toArray #[.string nm, .slice (some ⟨U.heap.size, 0, none⟩) 1 1] t1 t2
  refine ⟨(hsl.below gb).more (by omega), a1, a2, by omega, g2 0, g2 1, ?_, by omega, by unfold maxLen; omega, by omega, by unfold maxLen; omega⟩
  intro _
  refine ⟨U.heap.size, 0, rfl, by omega, fun i hi j hj => ?_⟩
  obtain rfl : i = 0 := by simpa using hi
  rw [show 0 + 0 * 5 + j = j by omega, g1 j]
  simp
end Go.Proofs.Ytgnodiegippkeaa
