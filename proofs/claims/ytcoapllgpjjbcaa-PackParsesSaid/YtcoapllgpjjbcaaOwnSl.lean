/- A row that a walk has made by append, as a slice whose cells are known. -/
import Derived.Test.YtcoapllgpjjbcaaSl
import Derived.Deep.AppendLies
import Derived.Laws.OwnMore
namespace Go.Proofs.Ytcoapllgpjjbcaa
open Go.RowKit
set_option linter.unusedVariables false
theorem flat_get {α : Type} {size : Nat} : ∀ (xss : List (List α)) (i j : Nat), (∀ xs ∈ xss, xs.length = size) → i < xss.length → j < size → xss.flatten[i * size + j]? = (xss.getD i [])[j]?
  | [], i, j, _, hi, _ => by simp at hi
  | x :: xss, 0, j, h, _, hj => by
    have h0 : x.length = size := h x (by simp)
    rw [List.flatten_cons, List.getElem?_append_left (by omega)]
    simp
  | x :: xss, i + 1, j, h, hi, hj => by
    have h0 : x.length = size := h x (by simp)
    have e : (i + 1) * size + j - x.length = i * size + j := by rw [Nat.succ_mul, h0]; omega
    have hge : x.length ≤ (i + 1) * size + j := by rw [Nat.succ_mul, h0]; omega
    rw [List.flatten_cons, List.getElem?_append_right hge, e, flat_get xss i j (fun y hy => h y (by simp [hy])) (by simpa using hi) hj]
    simp
theorem flat_len {α : Type} {size : Nat} : ∀ (xss : List (List α)), (∀ xs ∈ xss, xs.length = size) → xss.flatten.length = xss.length * size
  | [], _ => by simp
  | x :: xss, h => by
    rw [List.flatten_cons, List.length_append, h x (by simp), flat_len xss (fun y hy => h y (by simp [hy])), List.length_cons, Nat.succ_mul]
    omega
theorem own_sl {W : World} {base e size g n cap : Nat} {xss : List (List Value)} (hl : xss.length = n) (h : W.ownsRow base e size (.slice (some ⟨g, 0, none⟩) n cap) n xss.flatten) (hx : ∀ xs ∈ xss, xs.length = size) (hg : g < W.heap.size) : SlAt W W.heap.size size (some ⟨g, 0, none⟩) xss := by
  intro hn
  refine ⟨g, 0, rfl, hg, fun i hi j hj => ?_⟩
  have hlt : i * size + j < n * size := by
    have h1 : i + 1 ≤ n := by omega
    have h2 := Nat.mul_le_mul_right size h1
    rw [Nat.succ_mul] at h2
    omega
  rw [show 0 + i * size + j = i * size + j by omega, h.cellAt (i * size + j) hlt, flat_get xss i j hx hi hj]
end Go.Proofs.Ytcoapllgpjjbcaa
