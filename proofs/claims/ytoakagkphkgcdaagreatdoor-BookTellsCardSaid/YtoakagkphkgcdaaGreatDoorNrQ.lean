/- What a book that may be says of its parts, in plain Lean. -/
import Derived.Test.YtoakagkphkgcdaaGreatDoorBtP
namespace Go.Proofs.YtoakagkphkgcdaaGreatDoor
set_option linter.unusedVariables false
theorem bkE_inv {rs : List RuT} {zs : List ZoT} {ls : List LkT} (h : bookE rs zs ls = 0) :
    (rs.length ≤ 40 ∧ zs.length ≤ 20 ∧ ls.length ≤ 20) ∧ (∀ j, j < rs.length → ruEr rs[j]! = 0) ∧ (∀ j, j < zs.length → zoE rs zs j = 0) ∧ ∀ j, j < ls.length → lkE zs ls j = 0 := by
  rw [bookE] at h
  split at h
  · cases h
  · split at h
    · rename_i h1; exact absurd h h1
    · rename_i h1
      split at h
      · rename_i h2; exact absurd h h2
      · rename_i h2
        exact ⟨by omega, firE_inv (f := fun j => ruEr rs[j]!) (Classical.not_not.1 h1), firE_inv (Classical.not_not.1 h2), firE_inv h⟩
theorem zE_inv {rs : List RuT} {zs : List ZoT} {k : Nat} (h : zoE rs zs k = 0) : isNameB zs[k]!.name.data.toList = true ∧ 0 < zs[k]!.eras.length ∧ zs[k]!.eras.length ≤ 700 ∧ ∀ j, j < zs[k]!.eras.length → erE rs zs[k]!.eras j = 0 := by
  rw [zoE] at h
  split at h
  · cases h
  · rename_i h1
    split at h
    · cases h
    · split at h
      · cases h
      · split at h
        · cases h
        · exact ⟨by simpa using h1, by omega, by omega, firE_inv h⟩
theorem lE_inv {zs : List ZoT} {ls : List LkT} {k : Nat} (h : lkE zs ls k = 0) : isNameB ls[k]!.1.data.toList = true ∧ isNameB ls[k]!.2.data.toList = true := by
  rw [lkE] at h
  split at h
  · cases h
  · rename_i h1
    exact Classical.not_not.1 h1
theorem eE_inv {rs : List RuT} {l : List ErT} {k : Nat} (h : erE rs l k = 0) : (-64800 ≤ l[k]!.off ∧ l[k]!.off ≤ 64800) ∧ 0 ≤ l[k]!.save ∧ l[k]!.save ≤ 10800 := by
  have h1 : erE1 rs l[k]! = 0 := by
    unfold erE at h; by_cases h1 : erE1 rs l[k]! = 0
    · exact h1
    · rw [if_neg h1] at h; exact h
  unfold erE1 at h1
  split at h1
  · cases h1
  · rename_i h2; exact Classical.not_not.1 h2
theorem lkX_sz {x : LkT} (h : isNameB x.1.data.toList = true ∧ isNameB x.2.data.toList = true) : (lkX x).size ≤ 200 ∧ 0 < (lkX x).size := by
  have h1 := nm_sz h.1
  have h2 := nm_sz h.2
  have h3 : linkW.size = 5 := rfl
  have h4 : sp1.size = 1 := rfl
  unfold lkX; simp only [ByteArray.size_append, h3, h4]; omega
theorem zn_line {z : ZoT} (h : isNameB z.name.data.toList = true) : (zoneW ++ z.name).size ≤ 200 ∧ 0 < (zoneW ++ z.name).size := by
  have h1 := nm_sz h
  have h3 : zoneW.size = 5 := rfl
  rw [ByteArray.size_append, h3]; omega
/-- short lines, none of them empty -/
def Lns (l : List ByteArray) : Prop := ∀ x ∈ l, x.size ≤ 200 ∧ 0 < x.size
theorem Lns.snoc {l : List ByteArray} {t : ByteArray} (h : Lns l) (ht : t.size ≤ 200 ∧ 0 < t.size) : Lns (l ++ [t]) := by
  intro x hx
  rcases List.mem_append.1 hx with hx | hx
  · exact h x hx
  · rw [List.mem_singleton.1 hx]; exact ht
theorem Lns.size {l : List ByteArray} (h : Lns l) : (joinN l).size ≤ 201 * l.length := joinN_size fun x hx => (h x hx).1
theorem Lns.pos {l : List ByteArray} (h : Lns l) (h0 : l ≠ []) : 0 < (joinN l).size := joinN_pos (fun x hx => (h x hx).2) h0
theorem zoX_len (z : ZoT) (k : Nat) : (zoX z k).length = k + 1 := by unfold zoX; simp
theorem zosX_len {zs : List ZoT} (h : ∀ z ∈ zs, z.eras.length ≤ 700) : (zosX zs).length ≤ 701 * zs.length := by
  induction zs with
  | nil => exact Nat.zero_le _
  | cons z l ih =>
    have h1 := h z (by simp)
    have h2 := ih (fun y hy => h y (by simp [hy]))
    unfold zosX at h2 ⊢
    rw [List.map_cons, List.flatten_cons, List.length_append, zoX_len, List.length_cons]; omega
end Go.Proofs.YtoakagkphkgcdaaGreatDoor
