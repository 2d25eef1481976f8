/- Plain: names put in order one by one are the names sorted. No program in sight. -/
import Derived.Test.YthkiohemolndeaaGreatDoorPln
import Derived.Sort.KeysCollected
namespace Go.Proofs.YthkiohemolndeaaGreatDoor
set_option linter.unusedVariables false
abbrev Bs := List UInt8
def putS (x : Bs) : List Bs → List Bs
  | [] => [x]
  | y :: l => if y < x then y :: putS x l else x :: y :: l
theorem bs_not_lt {x y : Bs} (h : ¬ y < x) : x ≤ y := List.not_lt.1 h
theorem bs_le_of_lt {x y : Bs} (h : y < x) : y ≤ x := List.le_of_lt h
theorem putS_perm (x : Bs) : ∀ l, (putS x l).Perm (x :: l)
  | [] => List.Perm.refl _
  | y :: l => by
    rw [putS]
    split
    · exact ((putS_perm x l).cons y).trans (List.Perm.swap x y l)
    · exact List.Perm.refl _
theorem putS_mem {x z : Bs} {l : List Bs} (h : z ∈ putS x l) : z = x ∨ z ∈ l := by
  have := (putS_perm x l).mem_iff.1 h
  simpa using this
theorem putS_sorted (x : Bs) : ∀ {l : List Bs}, l.Pairwise (· ≤ ·) → (putS x l).Pairwise (· ≤ ·)
  | [], _ => List.pairwise_singleton _ _
  | y :: l, h => by
    obtain ⟨h1, h2⟩ := List.pairwise_cons.1 h
    rw [putS]
    split
    · rename_i hlt
      refine List.pairwise_cons.2 ⟨fun z hz => ?_, putS_sorted x h2⟩
      rcases putS_mem hz with rfl | hz
      · exact bs_le_of_lt hlt
      · exact h1 z hz
    · rename_i hlt
      have hxy := bs_not_lt hlt
      refine List.pairwise_cons.2 ⟨fun z hz => ?_, h⟩
      rcases List.mem_cons.1 hz with rfl | hz
      · exact hxy
      · exact List.le_trans hxy (h1 z hz)
def putAll (ns : List Bs) (l : List Bs) : List Bs := ns.foldl (fun l x => putS x l) l
theorem putAll_perm : ∀ (ns l : List Bs), (putAll ns l).Perm (ns ++ l)
  | [], l => List.Perm.refl _
  | x :: ns, l => by
    show (putAll ns (putS x l)).Perm _
    refine (putAll_perm ns _).trans ?_
    refine ((putS_perm x l).append_left ns).trans ?_
    exact List.perm_middle
theorem putAll_sorted : ∀ (ns : List Bs) {l : List Bs}, l.Pairwise (· ≤ ·) → (putAll ns l).Pairwise (· ≤ ·)
  | [], _, h => h
  | x :: ns, _, h => putAll_sorted ns (putS_sorted x h)
theorem putAll_snoc (ns : List Bs) (x : Bs) (l : List Bs) : putAll (ns ++ [x]) l = putS x (putAll ns l) := by simp [putAll]
/-- where the element stands: behind all that are less -/
theorem putS_at {x : Bs} : ∀ {l : List Bs} {k : Nat}, k ≤ l.length → (∀ j, j < k → l.getD j [] < x) → (k = l.length ∨ ¬ l.getD k [] < x) → putS x l = l.take k ++ x :: l.drop k
  | [], k, hk, _, _ => by
    have : k = 0 := by simpa using hk
    subst this; rfl
  | y :: l, 0, _, _, h => by
    have : ¬ y < x := by
      rcases h with h | h
      · cases h
      · exact h
    rw [putS, if_neg this]; rfl
  | y :: l, k + 1, hk, ha, h => by
    have h0 : y < x := ha 0 (by omega)
    rw [putS, if_pos h0, putS_at (k := k) (by simpa using hk) (fun j hj => by have := ha (j + 1) (by omega); simpa using this) (by
      rcases h with h | h
      · left; simpa using h
      · right; simpa using h)]
    rfl
/-- one order for the same names -/
theorem sorted_one {a b : List Bs} (h : a.Perm b) (ha : a.Pairwise (· ≤ ·)) (hb : b.Pairwise (· ≤ ·)) : a = b :=
  List.Perm.eq_of_pairwise (le := fun x y => x ≤ y) (fun x y _ _ h1 h2 => List.le_antisymm h1 h2) ha hb h
theorem sort_sorted (l : List Bs) : (l.mergeSort fun x y => decide (x ≤ y)).Pairwise (· ≤ ·) := by
  have h := List.pairwise_mergeSort (le := fun x y : Bs => decide (x ≤ y)) (fun a b c h1 h2 => by simp only [decide_eq_true_eq] at *; exact List.le_trans h1 h2) (fun a b => by simp only [Bool.or_eq_true, decide_eq_true_eq]; exact List.le_total a b) l
  exact h.imp (fun h => by simpa using h)
theorem names_one {ns l : List Bs} (h : ns.Perm l) : putAll ns [] = l.mergeSort fun x y => decide (x ≤ y) :=
  sorted_one ((putAll_perm ns []).trans (by rw [List.append_nil]; exact h.trans (List.mergeSort_perm _ _).symm)) (putAll_sorted ns List.Pairwise.nil) (sort_sorted l)
end Go.Proofs.YthkiohemolndeaaGreatDoor
