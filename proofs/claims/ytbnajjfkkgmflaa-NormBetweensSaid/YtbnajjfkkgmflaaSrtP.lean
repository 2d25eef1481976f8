/- Sorting by taking the least, in plain Lean. Nothing of the program here. -/
import Derived.Test.YtbnajjfkkgmflaaWfP
namespace Go.Proofs.Ytbnajjfkkgmflaa
set_option linter.unusedVariables false
/-- what the loop of the reference's sorted keeps: L0 is what it was given, L what is left, O what is out -/
def srtInv (L0 L O : List Int) : Prop := O.Pairwise (· < ·) ∧ (∀ a ∈ O, ∀ b ∈ L, a ≤ b) ∧ ∀ y, y ∈ L0 ↔ (y ∈ O ∨ y ∈ L)
theorem srt_start (L : List Int) : srtInv L L [] := ⟨List.Pairwise.nil, by simp, by simp⟩
theorem srt_end {L0 O : List Int} (h : srtInv L0 [] O) : O.Pairwise (· < ·) ∧ ∀ y, y ∈ O ↔ y ∈ L0 := ⟨h.1, fun y => by rw [h.2.2 y]; simp⟩
theorem mem_cut {L : List Int} {k : Nat} (hk : k < L.length) (y : Int) : y ∈ L ↔ y = L[k] ∨ y ∈ L.take k ++ L.drop (k + 1) := by
  have e : L = L.take k ++ L[k] :: L.drop (k + 1) := by rw [← List.drop_eq_getElem_cons hk, List.take_append_drop]
  constructor
  · intro h
    rw [e] at h
    simp only [List.mem_append, List.mem_cons] at h ⊢
    rcases h with h | h | h
    · exact Or.inr (Or.inl h)
    · exact Or.inl h
    · exact Or.inr (Or.inr h)
  · intro h
    rcases h with h | h
    · rw [h]; exact List.getElem_mem hk
    · rcases List.mem_append.1 h with h | h
      · exact List.mem_of_mem_take h
      · exact List.mem_of_mem_drop h
theorem srt_add {L0 L O : List Int} {k : Nat} (h : srtInv L0 L O) (hk : k < L.length) (hm : ∀ j (hj : j < L.length), L[k] ≤ L[j]) (hl : ∀ (ho : 0 < O.length), O[O.length - 1]'(by omega) ≠ L[k]) : srtInv L0 (L.take k ++ L.drop (k + 1)) (O ++ [L[k]]) := by
  obtain ⟨h1, h2, h3⟩ := h
  have hkm : L[k] ∈ L := List.getElem_mem hk
  have hlt : ∀ a ∈ O, a < L[k] := by
    intro a ha
    obtain ⟨i, hi, rfl⟩ := List.mem_iff_getElem.1 ha
    have hn := hl (by omega)
    have hle := h2 _ (List.getElem_mem (show O.length - 1 < O.length by omega)) _ hkm
    by_cases e : i = O.length - 1
    · subst e; omega
    · have := (List.pairwise_iff_getElem.1 h1) i (O.length - 1) hi (by omega) (by omega); omega
  refine ⟨?_, ?_, ?_⟩
  · rw [List.pairwise_append]
    exact ⟨h1, by simp, fun a ha b hb => by simp at hb; subst hb; exact hlt a ha⟩
  · intro a ha b hb
    have hbL : b ∈ L := (mem_cut hk b).2 (Or.inr hb)
    rcases List.mem_append.1 ha with ha | ha
    · exact h2 a ha b hbL
    · simp at ha; subst ha
      obtain ⟨j, hj, rfl⟩ := List.mem_iff_getElem.1 hbL
      exact hm j hj
  · intro y
    rw [h3 y, mem_cut hk y]
    have e : y ∈ O ++ [L[k]] ↔ y ∈ O ∨ y = L[k] := by rw [List.mem_append, List.mem_singleton]
    rw [e]
    constructor
    · rintro (h | h | h)
      · exact Or.inl (Or.inl h)
      · exact Or.inl (Or.inr h)
      · exact Or.inr h
    · rintro ((h | h) | h)
      · exact Or.inl h
      · exact Or.inr (Or.inl h)
      · exact Or.inr (Or.inr h)
theorem srt_same {L0 L O : List Int} {k : Nat} (h : srtInv L0 L O) (hk : k < L.length) (ho : 0 < O.length) (hl : O[O.length - 1]'(by omega) = L[k]) : srtInv L0 (L.take k ++ L.drop (k + 1)) O := by
  obtain ⟨h1, h2, h3⟩ := h
  refine ⟨h1, fun a ha b hb => h2 a ha b ((mem_cut hk b).2 (Or.inr hb)), fun y => ?_⟩
  rw [h3 y, mem_cut hk y]
  constructor
  · rintro (h | h | h)
    · exact Or.inl h
    · exact Or.inl (by rw [h, ← hl]; exact List.getElem_mem _)
    · exact Or.inr h
  · rintro (h | h)
    · exact Or.inl h
    · exact Or.inr (Or.inr h)
theorem cut_length {L : List Int} {k : Nat} (hk : k < L.length) : (L.take k ++ L.drop (k + 1)).length = L.length - 1 := by
  rw [List.length_append, List.length_take, List.length_drop]; omega
end Go.Proofs.Ytbnajjfkkgmflaa
