/- Tables in memory: their types' and changes' cells. -/
import Derived.Test.YtcoapllgpjjbcaaSl
import Derived.Test.YtcoapllgpjjbcaaTabP
namespace Go.Proofs.Ytcoapllgpjjbcaa
open Go.RowKit
set_option linter.unusedVariables false
theorem ty_at {w : World} {B : Nat} {A : Option Addr} {ts : List Ty} (h : SlAt w B 3 A (ts.map tyCells)) {k : Nat} (hk : k < ts.length) :
    ∃ b o, A = some ⟨b, o, none⟩ ∧ b < B ∧ w.cell? ⟨b, o + k * 3, none⟩ = some (.int .i64 ts[k].1) ∧ w.cell? ⟨b, o + k * 3 + 1, none⟩ = some (.bool ts[k].2.1) ∧ w.cell? ⟨b, o + k * 3 + 2, none⟩ = some (.string ts[k].2.2) := by
  obtain ⟨b, o, h1, h2, h3⟩ := h (by simp; omega)
  have e : (ts.map tyCells).getD k [] = tyCells ts[k] := by simp [List.getD, hk]
  have h4 := h3 k (by simpa using hk)
  rw [e] at h4
  exact ⟨b, o, h1, h2, h4 0 (by omega), h4 1 (by omega), h4 2 (by omega)⟩
theorem ch_at {w : World} {B : Nat} {A : Option Addr} {cs : List Ch} (h : SlAt w B 2 A (cs.map chCells)) {k : Nat} (hk : k < cs.length) :
    ∃ b o, A = some ⟨b, o, none⟩ ∧ b < B ∧ w.cell? ⟨b, o + k * 2, none⟩ = some (.int .i64 cs[k].1) ∧ w.cell? ⟨b, o + k * 2 + 1, none⟩ = some (.int .i64 cs[k].2) := by
  obtain ⟨b, o, h1, h2, h3⟩ := h (by simp; omega)
  have e : (cs.map chCells).getD k [] = chCells cs[k] := by simp [List.getD, hk]
  have h4 := h3 k (by simpa using hk)
  rw [e] at h4
  exact ⟨b, o, h1, h2, h4 0 (by omega), h4 1 (by omega)⟩
/-- a table that can be read: its slices, all that is asked of them -/
structure TabAt (w : World) (A C : Option Addr) (capT capC : Nat) (ts : List Ty) (cs : List Ch) : Prop where
  T : SlAt w w.heap.size 3 A (ts.map tyCells)
  C : SlAt w w.heap.size 2 C (cs.map chCells)
  cT : ts.length ≤ capT
  mT : capT ≤ maxLen
  cC : cs.length ≤ capC
  mC : capC ≤ maxLen
  names : ∀ t ∈ ts, t.2.2.size ≤ maxLen
theorem TabAt.below {w w' : World} {A C : Option Addr} {capT capC : Nat} {ts : List Ty} {cs : List Ch} (h : TabAt w A C capT capC ts cs) (hb : Below w.heap.size w w') : TabAt w' A C capT capC ts cs :=
  ⟨(h.T.below hb).more hb.size, (h.C.below hb).more hb.size, h.cT, h.mT, h.cC, h.mC, h.names⟩
theorem TabAt.zero (w : World) : TabAt w none none 0 0 [] [] := ⟨SlAt.none_ _ _ _ _, SlAt.none_ _ _ _ _, by simp, by unfold maxLen; omega, by simp, by unfold maxLen; omega, by simp⟩
abbrev tabV (A C : Option Addr) (capT capC : Nat) (ts : List Ty) (first : Int) (cs : List Ch) : Value := .agg #[.slice A ts.length capT, .int .i64 first, .slice C cs.length capC]
end Go.Proofs.Ytcoapllgpjjbcaa
