/- A box behind two and three new blocks. -/
import Derived.Test.YtgnodiegippkeaaRbB
namespace Go.Proofs.Ytgnodiegippkeaa
open Go.RowKit
set_option linter.unusedVariables false
theorem far2 {W : World} {g : Nat} {cs : Array Value} (h : Bx g W cs) : (∀ (o1 o2 : Obj) i, ((W.alloc o1).alloc o2).cell? ⟨g, i, none⟩ = cs[i]?) ∧ (∀ (o1 o2 : Obj) i, ((W.alloc o1).alloc o2).frozen? ⟨g, i, none⟩ = false) :=
  ⟨fun o1 o2 i => ((h.alloc o1).alloc o2).1 i, fun o1 o2 i => ((h.alloc o1).alloc o2).2.1 i⟩
theorem far1 {W : World} {g : Nat} {cs : Array Value} (h : Bx g W cs) : (∀ (o1 : Obj) i, (W.alloc o1).cell? ⟨g, i, none⟩ = cs[i]?) ∧ (∀ (o1 : Obj) i, (W.alloc o1).frozen? ⟨g, i, none⟩ = false) :=
  ⟨fun o1 i => (h.alloc o1).1 i, fun o1 i => (h.alloc o1).2.1 i⟩
theorem set3' {W : World} {g : Nat} {x y z u0 u1 u2 : Value} (h0 : W.cell? ⟨g, 0, none⟩ = some u0) (h1 : W.cell? ⟨g, 1, none⟩ = some u1) (h2 : W.cell? ⟨g, 2, none⟩ = some u2) :
    (((W.setCell ⟨g, 0, none⟩ x).setCell ⟨g, 1, none⟩ y).setCell ⟨g, 2, none⟩ z).cell? ⟨g, 0, none⟩ = some x ∧ (((W.setCell ⟨g, 0, none⟩ x).setCell ⟨g, 1, none⟩ y).setCell ⟨g, 2, none⟩ z).cell? ⟨g, 1, none⟩ = some y ∧
      (((W.setCell ⟨g, 0, none⟩ x).setCell ⟨g, 1, none⟩ y).setCell ⟨g, 2, none⟩ z).cell? ⟨g, 2, none⟩ = some z := by
  have n01 : (⟨g, 0, none⟩ : Addr) ≠ ⟨g, 1, none⟩ := by simp
  have n02 : (⟨g, 0, none⟩ : Addr) ≠ ⟨g, 2, none⟩ := by simp
  have n12 : (⟨g, 1, none⟩ : Addr) ≠ ⟨g, 2, none⟩ := by simp
  refine ⟨?_, ?_, ?_⟩
  · rw [World.cell?_setCell_other _ _ _ _ n02.symm, World.cell?_setCell_other _ _ _ _ n01.symm, World.cell?_setCell_same _ _ _ h0]
  · rw [World.cell?_setCell_other _ _ _ _ n12.symm]
    exact World.cell?_setCell_same _ _ _ ((World.cell?_setCell_other _ _ _ _ n01).trans h1)
  · exact World.cell?_setCell_same _ _ _ ((World.cell?_setCell_other _ _ _ _ n12).trans ((World.cell?_setCell_other _ _ _ _ n02).trans h2))
/-- a book's parts, behind the store of its value into the result's box -/
theorem bk_set {W : World} {rs : List RuT} {nm : ByteArray} {er : ErT} {A : Option Addr} {ca g h cz ce b3 : Nat} {x y z : Value} (hsl : SlAt W W.heap.size 11 A (rs.map ruC)) (hA : ∀ b o, A = some ⟨b, o, none⟩ → b3 ≠ b) (a1 : rs.length ≤ ca) (a2 : ca ≤ maxLen)
    (hg : g < W.heap.size) (hgn : b3 ≠ g) (c0 : W.cell? ⟨g, 0, none⟩ = some (.string nm)) (c1 : W.cell? ⟨g, 1, none⟩ = some (.slice (some ⟨h, 0, none⟩) 1 ce)) (hh : h < W.heap.size) (hhn : b3 ≠ h)
    (he : ∀ j, j < 5 → W.cell? ⟨h, j, none⟩ = (erC er)[j]?) (e1 : 1 ≤ ce) (e2 : ce ≤ maxLen) (z1 : 1 ≤ cz) (z2 : cz ≤ maxLen) :
    BkOk (((W.setCell ⟨b3, 0, none⟩ x).setCell ⟨b3, 1, none⟩ y).setCell ⟨b3, 2, none⟩ z) rs nm er A ca g cz (some ⟨h, 0, none⟩) ce := by
  have hz : (((W.setCell ⟨b3, 0, none⟩ x).setCell ⟨b3, 1, none⟩ y).setCell ⟨b3, 2, none⟩ z).heap.size = W.heap.size := by simp
  refine ⟨?_, a1, a2, by rw [hz]; exact hg, (far3 hgn).trans c0, (far3 hgn).trans c1, ?_, e1, e2, z1, z2⟩
  · intro hn
    obtain ⟨b, o, h1, h2, h3⟩ := hsl hn
    exact ⟨b, o, h1, by rw [hz]; exact h2, fun i hi j hj => (far3 (hA b o h1)).trans (h3 i hi j hj)⟩
  · intro _
    refine ⟨h, 0, rfl, by rw [hz]; exact hh, fun i hi j hj => ?_⟩
    obtain rfl : i = 0 := by simpa using hi
    rw [show 0 + 0 * 5 + j = j by omega]
    exact (far3 hhn).trans (he j hj)
theorem below_set3 {w W : World} {b3 : Nat} {x y z : Value} (h : Below w.heap.size w W) (hb : w.heap.size ≤ b3) : Below w.heap.size w (((W.setCell ⟨b3, 0, none⟩ x).setCell ⟨b3, 1, none⟩ y).setCell ⟨b3, 2, none⟩ z) :=
  Below.setCell (Below.setCell (Below.setCell h (p := ⟨b3, 0, none⟩) hb x) (p := ⟨b3, 1, none⟩) hb y) (p := ⟨b3, 2, none⟩) hb z
theorem far3' {W : World} {g : Nat} {cs : Array Value} (h : Bx g W cs) : (∀ (o1 o2 o3 : Obj) i, (((W.alloc o1).alloc o2).alloc o3).cell? ⟨g, i, none⟩ = cs[i]?) ∧ (∀ (o1 o2 o3 : Obj) i, (((W.alloc o1).alloc o2).alloc o3).frozen? ⟨g, i, none⟩ = false) :=
  ⟨fun o1 o2 o3 i => (((h.alloc o1).alloc o2).alloc o3).1 i, fun o1 o2 o3 i => (((h.alloc o1).alloc o2).alloc o3).2.1 i⟩
end Go.Proofs.Ytgnodiegippkeaa
