/- Walk of the reference's Eq at []int. -/
import Derived.Test.YtbnajjfkkgmflaaBase
namespace Go.Proofs.Ytbnajjfkkgmflaa
open Go.RowKit
set_option linter.unusedVariables false
def inCells (n : Int) : List Value := [.int .i64 n]
theorem in_at {w : World} {B : Nat} {A : Option Addr} {xs : List Int} (h : SlAt w B 1 A (xs.map inCells)) {k : Nat} (hk : k < xs.length) :
    ∃ b o, A = some ⟨b, o, none⟩ ∧ b < B ∧ w.cell? ⟨b, o + k, none⟩ = some (.int .i64 xs[k]) := by
  obtain ⟨b, o, h1, h2, h3⟩ := h (by simp; omega)
  have e : (xs.map inCells).getD k [] = inCells xs[k] := by simp [List.getD, hk]
  have h4 := h3 k (by simpa using hk) 0 (by omega)
  rw [e, Nat.mul_one] at h4
  exact ⟨b, o, h1, h2, h4⟩
theorem eq_step {α : Type} [DecidableEq α] {xs ys : List α} {k : Nat} (hx : k < xs.length) (hy : k < ys.length) (h : xs.drop k = ys.drop k → xs = ys) (e : xs[k] = ys[k]) : xs.drop (k + 1) = ys.drop (k + 1) → xs = ys := by
  intro g
  apply h
  rw [List.drop_eq_getElem_cons hx, List.drop_eq_getElem_cons hy, e, g]
theorem eq_not {α : Type} {xs ys : List α} {k : Nat} (hx : k < xs.length) (hy : k < ys.length) (e : ¬ xs[k] = ys[k]) : ¬ xs = ys := by
  intro g; subst g; exact e rfl
theorem drop_end {α : Type} {xs ys : List α} (hl : xs.length = ys.length) : xs.drop xs.length = ys.drop xs.length := by
  rw [List.drop_length, hl, List.drop_length]

end Go.Proofs.Ytbnajjfkkgmflaa
