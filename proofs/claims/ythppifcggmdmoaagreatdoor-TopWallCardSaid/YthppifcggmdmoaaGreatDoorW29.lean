/- Part 29 of the proof of TopWall: no condition; what its declarations say stands at each. -/
import Derived.Test.YthppifcggmdmoaaGreatDoorW02
namespace Go.Proofs.YthppifcggmdmoaaGreatDoor
set_option linter.unusedVariables false
section
variable {α : Type} (key : α → Int)
def smerge : List α → List α → List α
 | [], B => B
 | A, [] => A
 | a :: A, b :: B => if key b < key a then b :: smerge (a :: A) B else a :: smerge A (b :: B)
termination_by A B => A.length + B.length
theorem smerge_nil_left (B : List α) : smerge key [] B = B := by rw [smerge]
theorem smerge_nil_right (A : List α) : smerge key A [] = A := by cases A <;> rw [smerge]; simp
theorem smerge_lt {a b : α} {A B : List α} (h : key b < key a) : smerge key (a :: A) (b :: B) = b :: smerge key (a :: A) B := by rw [smerge, if_pos h]
theorem smerge_ge {a b : α} {A B : List α} (h : ¬ key b < key a) : smerge key (a :: A) (b :: B) = a :: smerge key A (b :: B) := by rw [smerge, if_neg h]
theorem smerge_len : ∀ (n : Nat) (A B : List α), A.length + B.length ≤ n → (smerge key A B).length = A.length + B.length
 | _, [], B, _ => by rw [smerge_nil_left]; simp
 | _, a :: A, [], _ => by rw [smerge_nil_right]; simp
 | 0, a :: A, b :: B, h => by simp at h
 | n + 1, a :: A, b :: B, h => by
  by_cases hb : key b < key a
  ·rw [smerge_lt key hb, List.length_cons, smerge_len n (a :: A) B (by simp at h ⊢; omega)]; simp; omega
  ·rw [smerge_ge key hb, List.length_cons, smerge_len n A (b :: B) (by simp at h ⊢; omega)]; simp; omega
theorem smerge_split : ∀ (n : Nat) (A1 A2 B1 B2 : List α), A1.length + B1.length ≤ n → (∀ x ∈ A1, ∀ y ∈ B2, key x ≤ key y) → (∀ x ∈ A2, ∀ y ∈ B1, key y < key x) →
  smerge key (A1 ++ A2) (B1 ++ B2) = smerge key A1 B1 ++ smerge key A2 B2
 | _, [], A2, [], B2, _, _, _ => by rw [smerge_nil_left]; rfl
 | _, [], [], B1, B2, _, _, _ => by simp only [smerge_nil_left, List.nil_append]
 | 0, [], a :: A2, b :: B1, B2, hn, _, _ => by simp at hn
 | n + 1, [], a :: A2, b :: B1, B2, hn, h1, h2 => by
  have hb : key b < key a := h2 a (by simp) b (by simp)
  have ih := smerge_split n [] (a :: A2) B1 B2 (by simp at hn ⊢; omega) (by simp) (fun x hx y hy => h2 x hx y (by simp [hy]))
  simp only [List.nil_append, smerge_nil_left, List.cons_append] at ih ⊢
  rw [smerge_lt key hb, ih]
 | _, a :: A1, A2, [], [], _, _, _ => by simp only [smerge_nil_right, List.append_nil]
 | 0, a :: A1, A2, [], b :: B2, hn, _, _ => by simp at hn
 | n + 1, a :: A1, A2, [], b :: B2, hn, h1, h2 => by
  have hb : ¬ key b < key a := by have := h1 a (by simp) b (by simp); omega
  have ih := smerge_split n A1 A2 [] (b :: B2) (by simp at hn ⊢; omega) (fun x hx y hy => h1 x (by simp [hx]) y hy) (by simp)
  simp only [List.nil_append, smerge_nil_right, List.cons_append] at ih ⊢
  rw [smerge_ge key hb, ih]
 | 0, a :: A1, A2, b :: B1, B2, hn, _, _ => by simp at hn
 | n + 1, a :: A1, A2, b :: B1, B2, hn, h1, h2 => by
  by_cases hb : key b < key a
  ·have ih := smerge_split n (a :: A1) A2 B1 B2 (by simp at hn ⊢; omega) h1 (fun x hx y hy => h2 x hx y (by simp [hy]))
   simp only [List.cons_append] at ih ⊢
   rw [smerge_lt key hb, smerge_lt key hb, ih]; rfl
  ·have ih := smerge_split n A1 A2 (b :: B1) B2 (by simp at hn ⊢; omega) (fun x hx y hy => h1 x (by simp [hx]) y hy) h2
   simp only [List.cons_append] at ih ⊢
   rw [smerge_ge key hb, smerge_ge key hb, ih]; rfl
theorem smerge_assoc : ∀ (n : Nat) (A B C : List α), A.length + B.length + C.length ≤ n → smerge key (smerge key A B) C = smerge key A (smerge key B C)
 | _, [], B, C, _ => by simp only [smerge_nil_left]
 | _, a :: A, [], C, _ => by simp only [smerge_nil_left, smerge_nil_right]
 | _, a :: A, b :: B, [], _ => by simp only [smerge_nil_right]
 | 0, a :: A, b :: B, c :: C, h => by simp at h
 | n + 1, a :: A, b :: B, c :: C, h => by
  have i1 := smerge_assoc n (a :: A) (b :: B) C (by simp at h ⊢; omega)
  have i2 := smerge_assoc n (a :: A) B (c :: C) (by simp at h ⊢; omega)
  have i3 := smerge_assoc n A (b :: B) (c :: C) (by simp at h ⊢; omega)
  by_cases hba : key b < key a
  ·rw [smerge_lt key hba] at i1 ⊢
   by_cases hcb : key c < key b
   ·rw [smerge_lt key hcb, smerge_lt key hcb, smerge_lt key (show key c < key a by omega), i1]
   ·rw [smerge_ge key hcb, smerge_ge key hcb, smerge_lt key hba, i2]
  ·rw [smerge_ge key hba] at i1 ⊢
   by_cases hca : key c < key a
   ·rw [smerge_lt key hca, smerge_lt key (show key c < key b by omega), smerge_lt key hca, i1]
   ·rw [smerge_ge key hca]
    by_cases hcb : key c < key b
    ·rw [smerge_lt key hcb] at i3 ⊢
     rw [smerge_ge key hca, i3]
    ·rw [smerge_ge key hcb] at i3 ⊢
     rw [smerge_ge key hba, i3]
def ssort (l : List α) : List α := l.foldl (fun acc x => smerge key acc [x]) []
theorem ssort_snoc (l : List α) (x : α) : ssort key (l ++ [x]) = smerge key (ssort key l) [x] := by unfold ssort; rw [List.foldl_append]; rfl
theorem ssort_one (x : α) : ssort key [x] = [x] := by show smerge key [] [x] = [x]; exact smerge_nil_left key _
theorem ssort_app (X : List α) : ∀ (n : Nat) (Y : List α), Y.length = n → ssort key (X ++ Y) = smerge key (ssort key X) (ssort key Y)
 | 0, Y, h => by
  have : Y = [] := List.length_eq_zero_iff.1 h
  subst this
  rw [List.append_nil]; show _ = smerge key _ []; rw [smerge_nil_right]
 | n + 1, Y, h => by
  have hne : Y ≠ [] := by intro e; rw [e] at h; simp at h
  obtain ⟨Y', y, rfl⟩ : ∃ Y' y, Y = Y' ++ [y] := ⟨Y.dropLast, Y.getLast hne, (List.dropLast_concat_getLast hne).symm⟩
  have ih := ssort_app X n Y' (by simp at h; exact h)
  rw [← List.append_assoc, ssort_snoc, ih, ssort_snoc]
  exact smerge_assoc key _ _ _ _ (Nat.le_refl _)
theorem ssort_append (X Y : List α) : ssort key (X ++ Y) = smerge key (ssort key X) (ssort key Y) := ssort_app key X _ Y rfl
theorem smerge_in (P1 P2 : List α) (x : α) (h1 : ∀ p ∈ P1, key p ≤ key x) (h2 : ∀ p ∈ P2, key x < key p) : smerge key (P1 ++ P2) [x] = P1 ++ x :: P2 := by
 have e1 := smerge_split key (P1.length + 1) P1 P2 [x] [] (by simp) (by simp) (fun p hp y hy => by rw [List.mem_singleton.1 hy]; exact h2 p hp)
 have e2 := smerge_split key P1.length P1 [] [] [x] (by simp) (fun p hp y hy => by rw [List.mem_singleton.1 hy]; exact h1 p hp) (by simp)
 simp only [List.append_nil, List.nil_append, smerge_nil_right, smerge_nil_left] at e1 e2
 rw [e1, e2]; simp
theorem smerge_one (B1 B2 : List α) (x : α) (h1 : ∀ p ∈ B1, key p < key x) (h2 : ∀ p ∈ B2, key x ≤ key p) : smerge key [x] (B1 ++ B2) = B1 ++ x :: B2 := by
 have e1 := smerge_split key (B1.length + 1) [] [x] B1 B2 (by simp) (by simp) (fun p hp y hy => by rw [List.mem_singleton.1 hp]; exact h1 y hy)
 have e2 := smerge_split key 1 [x] [] [] B2 (by simp) (fun p hp y hy => by rw [List.mem_singleton.1 hp]; exact h2 y hy) (by simp)
 simp only [List.append_nil, List.nil_append, smerge_nil_right, smerge_nil_left] at e1 e2
 rw [e1, e2]; simp
theorem smerge_mem : ∀ (n : Nat) (A B : List α), A.length + B.length ≤ n → ∀ x, x ∈ smerge key A B ↔ x ∈ A ∨ x ∈ B
 | _, [], B, _, x => by rw [smerge_nil_left]; simp
 | _, a :: A, [], _, x => by rw [smerge_nil_right]; simp
 | 0, a :: A, b :: B, h, x => by simp at h
 | n + 1, a :: A, b :: B, h, x => by
  by_cases hb : key b < key a
  ·rw [smerge_lt key hb, List.mem_cons, smerge_mem n (a :: A) B (by simp at h ⊢; omega)]
   simp only [List.mem_cons]
   constructor
   ·rintro (h | h | h)
    ·exact Or.inr (Or.inl h)
    ·exact Or.inl h
    ·exact Or.inr (Or.inr h)
   ·rintro (h | h | h)
    ·exact Or.inr (Or.inl h)
    ·exact Or.inl h
    ·exact Or.inr (Or.inr h)
  ·rw [smerge_ge key hb, List.mem_cons, smerge_mem n A (b :: B) (by simp at h ⊢; omega)]
   simp only [List.mem_cons]
   constructor
   ·rintro (h | h | h)
    ·exact Or.inl (Or.inl h)
    ·exact Or.inl (Or.inr h)
    ·exact Or.inr h
   ·rintro ((h | h) | h)
    ·exact Or.inl h
    ·exact Or.inr (Or.inl h)
    ·exact Or.inr (Or.inr h)
theorem smerge_sorted : ∀ (n : Nat) (A B : List α), A.length + B.length ≤ n → A.Pairwise (fun a b => key a ≤ key b) → B.Pairwise (fun a b => key a ≤ key b) → (smerge key A B).Pairwise (fun a b => key a ≤ key b)
 | _, [], B, _, _, h => by rw [smerge_nil_left]; exact h
 | _, a :: A, [], _, h, _ => by rw [smerge_nil_right]; exact h
 | 0, a :: A, b :: B, h, _, _ => by simp at h
 | n + 1, a :: A, b :: B, h, hA, hB => by
  obtain ⟨a1, a2⟩ := List.pairwise_cons.1 hA
  obtain ⟨b1, b2⟩ := List.pairwise_cons.1 hB
  by_cases hb : key b < key a
  ·rw [smerge_lt key hb, List.pairwise_cons]
   refine ⟨fun x hx => ?_, smerge_sorted n (a :: A) B (by simp at h ⊢; omega) hA b2⟩
   rcases (smerge_mem key _ (a :: A) B (Nat.le_refl _) x).1 hx with hx | hx
   ·rcases List.mem_cons.1 hx with rfl | hx
    ·omega
    ·have := a1 x hx; omega
   ·exact b1 x hx
  ·rw [smerge_ge key hb, List.pairwise_cons]
   refine ⟨fun x hx => ?_, smerge_sorted n A (b :: B) (by simp at h ⊢; omega) a2 hB⟩
   rcases (smerge_mem key _ A (b :: B) (Nat.le_refl _) x).1 hx with hx | hx
   ·exact a1 x hx
   ·rcases List.mem_cons.1 hx with rfl | hx
    ·omega
    ·have := b1 x hx; omega
theorem ssort_sorted : ∀ (n : Nat) (l : List α), l.length = n → (ssort key l).Pairwise (fun a b => key a ≤ key b)
 | 0, l, h => by
  have : l = [] := List.length_eq_zero_iff.1 h
  subst this; exact List.Pairwise.nil
 | n + 1, l, h => by
  have hne : l ≠ [] := by intro e; rw [e] at h; simp at h
  obtain ⟨l', y, rfl⟩ : ∃ Y' y, l = Y' ++ [y] := ⟨l.dropLast, l.getLast hne, (List.dropLast_concat_getLast hne).symm⟩
  rw [ssort_snoc]
  exact smerge_sorted key _ _ _ (Nat.le_refl _) (ssort_sorted n l' (by simp at h; exact h)) (List.pairwise_singleton _ _)
theorem ssort_len : ∀ (n : Nat) (l : List α), l.length = n → (ssort key l).length = n
 | 0, l, h => by
  have : l = [] := List.length_eq_zero_iff.1 h
  subst this; rfl
 | n + 1, l, h => by
  have hne : l ≠ [] := by intro e; rw [e] at h; simp at h
  obtain ⟨l', y, rfl⟩ : ∃ Y' y, l = Y' ++ [y] := ⟨l.dropLast, l.getLast hne, (List.dropLast_concat_getLast hne).symm⟩
  rw [ssort_snoc, smerge_len key _ _ _ (Nat.le_refl _), ssort_len n l' (by simp at h; exact h)]; rfl
end
end Go.Proofs.YthppifcggmdmoaaGreatDoor

