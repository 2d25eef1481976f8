/- Formats of abbreviations in plain Lean: which may be, and what they give. Nothing of the program here. -/
import Derived.Test.YtiiilpfapggihaaStrP
namespace Go.Proofs.Ytiiilpfapggihaa
set_option linter.unusedVariables false
def ixB (F : ByteArray) (c : UInt8) : Int := Lib.indexByte F.data.toList c
def cutA (F : ByteArray) (c : UInt8) : ByteArray := F.extract 0 (ixB F c).toNat
def cutB (F : ByteArray) (c : UInt8) : ByteArray := F.extract ((ixB F c).toNat + 1) F.size
def pctOk (ab : ByteArray) : Bool := decide (ab.size = 0) || isAbbrB ab.data.toList
def fmtOk (F : ByteArray) : Bool :=
  if 12 < F.size then false else
  if 0 ≤ ixB F 47 then isAbbrB (cutA F 47).data.toList && isAbbrB (cutB F 47).data.toList
  else if 0 ≤ ixB F 37 then pctOk (cutA F 37 ++ cutB F 37) else isAbbrB F.data.toList
def letV (letter : ByteArray) : ByteArray := if letter.toList == [45] then ⟨#[]⟩ else letter
def fmtOut (F : ByteArray) (save : Int) (letter : ByteArray) : ByteArray :=
  if 0 ≤ ixB F 47 then if save = 0 then cutA F 47 else cutB F 47
  else if 0 ≤ ixB F 37 then cutA F 37 ++ (letV letter ++ cutB F 37) else F
def letOk (letter : ByteArray) : Bool := (letter.toList == [45]) || isAbbrB letter.data.toList
def abE (F : ByteArray) (save : Int) (letter : ByteArray) : Int :=
  if (fmtOk F && letOk letter) = true then if 0 ≤ save ∧ save ≤ 10800 then if 8 < (fmtOut F save letter).size then 2 else if (fmtOut F save letter).size = 0 then 5 else 0 else 1 else 3
def abV (F : ByteArray) (save : Int) (letter : ByteArray) : ByteArray := if abE F save letter = 0 then fmtOut F save letter else ⟨#[]⟩
theorem ab_3 {F letter : ByteArray} {save : Int} (h : (fmtOk F && letOk letter) = false) : abE F save letter = 3 ∧ abV F save letter = ⟨#[]⟩ := by
  have : abE F save letter = 3 := by rw [abE, h]; rfl
  exact ⟨this, by rw [abV, this]; rfl⟩
theorem ab_1 {F letter : ByteArray} {save : Int} (h : (fmtOk F && letOk letter) = true) (h2 : ¬ (0 ≤ save ∧ save ≤ 10800)) : abE F save letter = 1 ∧ abV F save letter = ⟨#[]⟩ := by
  have : abE F save letter = 1 := by rw [abE, if_pos h, if_neg h2]
  exact ⟨this, by rw [abV, this]; rfl⟩
theorem ab_2 {F letter : ByteArray} {save : Int} (h : (fmtOk F && letOk letter) = true) (h2 : 0 ≤ save ∧ save ≤ 10800) (h3 : 8 < (fmtOut F save letter).size) : abE F save letter = 2 ∧ abV F save letter = ⟨#[]⟩ := by
  have : abE F save letter = 2 := by rw [abE, if_pos h, if_pos h2, if_pos h3]
  exact ⟨this, by rw [abV, this]; rfl⟩
theorem ab_5 {F letter : ByteArray} {save : Int} (h : (fmtOk F && letOk letter) = true) (h2 : 0 ≤ save ∧ save ≤ 10800) (h3 : (fmtOut F save letter).size = 0) : abE F save letter = 5 ∧ abV F save letter = ⟨#[]⟩ := by
  have : abE F save letter = 5 := by rw [abE, if_pos h, if_pos h2, if_neg (by omega), if_pos h3]
  exact ⟨this, by rw [abV, this]; rfl⟩
theorem ab_0 {F letter : ByteArray} {save : Int} (h : (fmtOk F && letOk letter) = true) (h2 : 0 ≤ save ∧ save ≤ 10800) (h3 : ¬ 8 < (fmtOut F save letter).size) (h4 : ¬ (fmtOut F save letter).size = 0) : abE F save letter = 0 ∧ abV F save letter = fmtOut F save letter := by
  have : abE F save letter = 0 := by rw [abE, if_pos h, if_pos h2, if_neg h3, if_neg h4]
  exact ⟨this, by rw [abV, this]; rfl⟩
theorem ix_cases (F : ByteArray) (c : UInt8) : ixB F c = -1 ∨ ∃ k : Nat, ixB F c = k ∧ k < F.size := by
  have h := Lib.indexByte_ge F.data.toList c
  by_cases h1 : ixB F c = -1
  · exact Or.inl h1
  · obtain ⟨k, hk⟩ := Int.eq_ofNat_of_zero_le (show 0 ≤ ixB F c by unfold ixB at *; omega)
    refine Or.inr ⟨k, hk, ?_⟩
    have := (Lib.indexByte_some (show Lib.indexByte F.data.toList c = (k : Int) from hk)).1
    have := (List.getElem?_eq_some_iff.1 this).1
    simpa using this
/-- what is an abbreviation has no such sign -/
theorem abbr_count {l : List UInt8} (h : isAbbrB l = true) (c : UInt8) (hc : okB [43, 45] c = false) : l.count c = 0 := by
  rw [List.count_eq_zero]
  intro hm
  have := (allB_len h).2.2
  rw [lettersB, List.all_eq_true] at this
  rw [this c hm] at hc; cases hc
theorem extract_list (F : ByteArray) (i j : Nat) : (F.extract i j).data.toList = (F.data.toList.take j).drop i := by
  rw [ByteArray.data_extract, Array.toList_extract]
  simp [List.extract_eq_take_drop, List.drop_take]
theorem cut_list {F : ByteArray} {c : UInt8} {k : Nat} (h : ixB F c = k) : F.data.toList = (cutA F c).data.toList ++ c :: (cutB F c).data.toList ∧ (cutA F c).data.toList.count c = 0 := by
  obtain ⟨h1, h2⟩ := Lib.indexByte_some (show Lib.indexByte F.data.toList c = (k : Int) from h)
  have hk : k < F.data.toList.length := (List.getElem?_eq_some_iff.1 h1).1
  have hc := (List.getElem?_eq_some_iff.1 h1).2
  have ht : (ixB F c).toNat = k := by omega
  have ea : (cutA F c).data.toList = F.data.toList.take k := by rw [cutA, ht, extract_list]; simp
  have eb : (cutB F c).data.toList = F.data.toList.drop (k + 1) := by
    rw [cutB, ht, extract_list, List.take_of_length_le (by simp)]
  refine ⟨?_, ?_⟩
  · rw [ea, eb, ← hc, ← List.drop_eq_getElem_cons hk, List.take_append_drop]
  · rw [ea, List.count_eq_zero]
    intro hm
    obtain ⟨i, hi, e⟩ := List.mem_iff_getElem.1 hm
    rw [List.length_take] at hi
    rw [List.getElem_take] at e
    exact h2 i (by omega) (by rw [List.getElem?_eq_getElem (by omega), e])
theorem ix_none_count {F : ByteArray} {c : UInt8} (h : ixB F c = -1) : F.data.toList.count c = 0 := by
  rw [List.count_eq_zero]
  intro hm
  obtain ⟨i, hi, e⟩ := List.mem_iff_getElem.1 hm
  exact Lib.indexByte_none (show Lib.indexByte F.data.toList c = -1 from h) i (by rw [List.getElem?_eq_getElem hi, e])
theorem append_list (a b : ByteArray) : (a ++ b).data.toList = a.data.toList ++ b.data.toList := by simp
/-- a format that may be has at most one of both signs -/
theorem fmt_count {F : ByteArray} (h : fmtOk F = true) : F.data.toList.count 37 + F.data.toList.count 47 ≤ 1 := by
  have h47 : okB [43, 45] 47 = false := by decide
  have h37 : okB [43, 45] 37 = false := by decide
  rw [fmtOk] at h
  by_cases h0 : 12 < F.size
  · rw [if_pos h0] at h; cases h
  · rw [if_neg h0] at h
    rcases ix_cases F 47 with hs | ⟨k, hs, _⟩
    · rw [if_neg (by omega)] at h
      have c47 := ix_none_count hs
      rcases ix_cases F 37 with hp | ⟨j, hp, _⟩
      · have c37 := ix_none_count hp
        omega
      · rw [if_pos (by omega)] at h
        obtain ⟨e, c0⟩ := cut_list hp
        rw [pctOk, Bool.or_eq_true, decide_eq_true_eq] at h
        have hb : (cutB F 37).data.toList.count 37 = 0 := by
          rcases h with h | h
          · have hl : (cutA F 37 ++ cutB F 37).data.toList.length = 0 := by rw [size_len]; exact h
            rw [append_list, List.length_append] at hl
            rw [List.length_eq_zero_iff.1 (show (cutB F 37).data.toList.length = 0 by omega)]; rfl
          · have := abbr_count h 37 h37
            rw [append_list, List.count_append] at this; omega
        rw [c47, e, List.count_append, List.count_cons, c0, hb]; decide
    · rw [if_pos (by omega), Bool.and_eq_true] at h
      obtain ⟨e, _⟩ := cut_list hs
      have a1 := abbr_count h.1 47 h47
      have a2 := abbr_count h.1 37 h37
      have b1 := abbr_count h.2 47 h47
      have b2 := abbr_count h.2 37 h37
      rw [e, List.count_append, List.count_cons, List.count_append, List.count_cons, a1, a2, b1, b2]; decide
end Go.Proofs.Ytiiilpfapggihaa
