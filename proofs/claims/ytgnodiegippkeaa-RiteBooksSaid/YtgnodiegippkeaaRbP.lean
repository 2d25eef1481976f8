/- Books of summers in plain Lean: their errors, what they hold. -/
import Derived.Test.YtgnodiegippkeaaRtA
import Derived.Test.YtgnodiegippkeaaEqB
namespace Go.Proofs.Ytgnodiegippkeaa
open Go.RowKit
set_option linter.unusedVariables false
def rbE (name also : ByteArray) (off aoff m1 k1 d1 a1 m2 k2 d2 a2 : Int) (nm : ByteArray) (fr to : Int) : Int := if posE name off also aoff m1 k1 d1 a1 m2 k2 d2 a2 = 0 then if isNameB nm.data.toList = true then if 1900 ≤ fr ∧ fr ≤ 2100 ∧ fr ≤ to ∧ to ≤ 2100 then if ¬ also.size = 0 ∧ 12 < name.size + 1 + also.size then 2 else 0 else 1 else 3 else posE name off also aoff m1 k1 d1 a1 m2 k2 d2 a2
def RITE : ByteArray := ⟨#[114, 105, 116, 101]⟩
def rbOne (m k d a sv fr to : Int) : RuT := ⟨RITE, fr, to, m, rdK k, d, rdN k, a, 0, sv, ⟨#[45]⟩⟩
def rbRs (name also : ByteArray) (off aoff m1 k1 d1 a1 m2 k2 d2 a2 : Int) (nm : ByteArray) (fr to : Int) : List RuT := if also.size = 0 then [] else [rbOne m1 k1 d1 a1 (aoff - off) fr to, rbOne m2 k2 d2 a2 0 fr to]
def rbEr (name also : ByteArray) (off : Int) : ErT := if also.size = 0 then ⟨off, ⟨#[]⟩, 0, name, 0⟩ else ⟨off, RITE, 0, name ++ ⟨#[47]⟩ ++ also, 0⟩
section
variable {name also nm : ByteArray} {off aoff m1 k1 d1 a1 m2 k2 d2 a2 fr to : Int}
theorem rb_bad (h : ¬ posE name off also aoff m1 k1 d1 a1 m2 k2 d2 a2 = 0) : rbE name also off aoff m1 k1 d1 a1 m2 k2 d2 a2 nm fr to = posE name off also aoff m1 k1 d1 a1 m2 k2 d2 a2 := by rw [rbE, if_neg h]
theorem rb_3 (h : posE name off also aoff m1 k1 d1 a1 m2 k2 d2 a2 = 0) (h2 : isNameB nm.data.toList = false) : rbE name also off aoff m1 k1 d1 a1 m2 k2 d2 a2 nm fr to = 3 := by rw [rbE, if_pos h, if_neg (by rw [h2]; decide)]
theorem rb_1 (h : posE name off also aoff m1 k1 d1 a1 m2 k2 d2 a2 = 0) (h2 : isNameB nm.data.toList = true) (h3 : ¬ (1900 ≤ fr ∧ fr ≤ 2100 ∧ fr ≤ to ∧ to ≤ 2100)) : rbE name also off aoff m1 k1 d1 a1 m2 k2 d2 a2 nm fr to = 1 := by rw [rbE, if_pos h, if_pos h2, if_neg h3]
theorem rb_2 (h : posE name off also aoff m1 k1 d1 a1 m2 k2 d2 a2 = 0) (h2 : isNameB nm.data.toList = true) (h3 : 1900 ≤ fr ∧ fr ≤ 2100 ∧ fr ≤ to ∧ to ≤ 2100) (h4 : ¬ also.size = 0) (h5 : 12 < name.size + 1 + also.size) : rbE name also off aoff m1 k1 d1 a1 m2 k2 d2 a2 nm fr to = 2 := by rw [rbE, if_pos h, if_pos h2, if_pos h3, if_pos ⟨h4, h5⟩]
theorem rb_0 (h : posE name off also aoff m1 k1 d1 a1 m2 k2 d2 a2 = 0) (h2 : isNameB nm.data.toList = true) (h3 : 1900 ≤ fr ∧ fr ≤ 2100 ∧ fr ≤ to ∧ to ≤ 2100) (h4 : ¬ (¬ also.size = 0 ∧ 12 < name.size + 1 + also.size)) : rbE name also off aoff m1 k1 d1 a1 m2 k2 d2 a2 nm fr to = 0 := by rw [rbE, if_pos h, if_pos h2, if_pos h3, if_neg h4]
end
/-- what a book that was made holds, in memory -/
def BkOk (W : World) (rs : List RuT) (nm : ByteArray) (er : ErT) (A : Option Addr) (ca g cz : Nat) (E : Option Addr) (ce : Nat) : Prop :=
  SlAt W W.heap.size 11 A (rs.map ruC) ∧ rs.length ≤ ca ∧ ca ≤ maxLen ∧ g < W.heap.size ∧ W.cell? ⟨g, 0, none⟩ = some (.string nm) ∧ W.cell? ⟨g, 1, none⟩ = some (.slice E 1 ce) ∧ SlAt W W.heap.size 5 E ([er].map erC) ∧ 1 ≤ ce ∧ ce ≤ maxLen ∧ 1 ≤ cz ∧ cz ≤ maxLen
theorem BkOk.step {W W2 : World} {rs : List RuT} {nm : ByteArray} {er : ErT} {A E : Option Addr} {ca g cz ce : Nat} (h : BkOk W rs nm er A ca g cz E ce) (hb : Below W.heap.size W W2) : BkOk W2 rs nm er A ca g cz E ce := by
  obtain ⟨a1, a2, a3, a4, a5, a6, a7, a8, a9, a10, a11⟩ := h
  have := hb.size
  exact ⟨(a1.below hb).more this, a2, a3, by omega, (hb.cell a4).trans a5, (hb.cell a4).trans a6, (a7.below hb).more this, a8, a9, a10, a11⟩
end Go.Proofs.Ytgnodiegippkeaa
