/- Strings in plain Lean: which bytes are letters and digits, names and abbreviations. Nothing of the program here. -/
import Derived.Test.YtcoapllgpjjbcaaKit
import Derived.Lib.IndexLaws
namespace Go.Proofs.Ytcoapllgpjjbcaa
set_option linter.unusedVariables false
def isLetB (c : UInt8) : Bool := decide ((97 ≤ c.toNat ∧ c.toNat ≤ 122) ∨ (65 ≤ c.toNat ∧ c.toNat ≤ 90))
def isDigB (c : UInt8) : Bool := decide (48 ≤ c.toNat ∧ c.toNat ≤ 57)
theorem isLetB_t {c : UInt8} (h : (97 ≤ c.toNat ∧ c.toNat ≤ 122) ∨ (65 ≤ c.toNat ∧ c.toNat ≤ 90)) : isLetB c = true := by simpa only [isLetB, decide_eq_true_eq] using h
theorem isLetB_f {c : UInt8} (h : ¬ ((97 ≤ c.toNat ∧ c.toNat ≤ 122) ∨ (65 ≤ c.toNat ∧ c.toNat ≤ 90))) : isLetB c = false := by simpa only [isLetB, decide_eq_false_iff_not] using h
theorem isDigB_t {c : UInt8} (h : 48 ≤ c.toNat ∧ c.toNat ≤ 57) : isDigB c = true := by simpa only [isDigB, decide_eq_true_eq] using h
theorem isDigB_f {c : UInt8} (h : ¬ (48 ≤ c.toNat ∧ c.toNat ≤ 57)) : isDigB c = false := by simpa only [isDigB, decide_eq_false_iff_not] using h
def okB (o : List UInt8) (c : UInt8) : Bool := isLetB c || isDigB c || o.contains c
def lettersB (o l : List UInt8) : Bool := l.all (okB o)
/-- a text of one to so many bytes, all of them letters, digits or of others -/
def allB (most : Nat) (o l : List UInt8) : Bool := lettersB o l && decide (1 ≤ l.length ∧ l.length ≤ most)
def isAbbrB (l : List UInt8) : Bool := allB 8 [43, 45] l
def isNameB (l : List UInt8) : Bool := allB 20 [95, 47, 45] l && isLetB (l.headD 0)
theorem indexByte_contains (l : List UInt8) (c : UInt8) : decide (0 ≤ Lib.indexByte l c) = l.contains c := by
  rw [Bool.eq_iff_iff]
  simp only [decide_eq_true_eq, List.contains_iff_mem]
  constructor
  · intro h
    obtain ⟨o, ho⟩ := Int.eq_ofNat_of_zero_le h
    exact List.mem_of_getElem? (Lib.indexByte_some ho).1
  · intro h
    have := Lib.indexByte_ge l c
    by_cases e : Lib.indexByte l c = -1
    · obtain ⟨k, hk, e2⟩ := List.mem_iff_getElem.1 h
      exact absurd (by rw [List.getElem?_eq_getElem hk, e2]) (Lib.indexByte_none e k)
    · omega
theorem extract_one (s : ByteArray) (k : Nat) (h : k < s.size) : s.extract k (k + 1) = ⟨#[s[k]]⟩ := by
  apply ByteArray.ext
  rw [ByteArray.data_extract]
  apply Array.ext'
  have h' : k < s.data.toList.length := by simpa using h
  simp only [Array.toList_extract, List.extract_eq_take_drop]
  rw [List.drop_eq_getElem_cons h', show k + 1 - k = 1 by omega]
  rfl
theorem byte_cases (c : UInt8) : ((c.toNat < 48 ∨ (58 ≤ c.toNat ∧ c.toNat ≤ 64) ∨ (91 ≤ c.toNat ∧ c.toNat ≤ 96) ∨ 123 ≤ c.toNat) ∧ (isLetB c || isDigB c) = false) ∨ (((48 ≤ c.toNat ∧ c.toNat ≤ 57) ∨ (65 ≤ c.toNat ∧ c.toNat ≤ 90) ∨ (97 ≤ c.toNat ∧ c.toNat ≤ 122)) ∧ (isLetB c || isDigB c) = true) := by
  by_cases h : (48 ≤ c.toNat ∧ c.toNat ≤ 57) ∨ (65 ≤ c.toNat ∧ c.toNat ≤ 90) ∨ (97 ≤ c.toNat ∧ c.toNat ≤ 122)
  · refine Or.inr ⟨h, ?_⟩
    by_cases h1 : 48 ≤ c.toNat ∧ c.toNat ≤ 57
    · rw [isDigB_t h1, Bool.or_true]
    · rw [isLetB_t (by omega), Bool.true_or]
  · exact Or.inl ⟨by omega, by rw [isLetB_f (by omega), isDigB_f (by omega)]; rfl⟩
theorem contains_snoc (l : List UInt8) (k : Nat) (h : k < l.length) (c : UInt8) : (l.take (k + 1)).contains c = ((l.take k).contains c || c == l[k]) := by
  rw [List.take_succ_eq_append_getElem h]; simp only [List.contains_eq_any_beq, List.any_append, List.any_cons, List.any_nil, Bool.or_false]
theorem getD_get (l : List UInt8) (k : Nat) (h : k < l.length) : l.getD k 0 = l[k] := by simp [List.getD, h]
theorem lettersB_snoc (o : List UInt8) (l : List UInt8) (k : Nat) (h : k < l.length) : lettersB o (l.take (k + 1)) = (lettersB o (l.take k) && okB o l[k]) := by
  rw [lettersB, List.take_succ_eq_append_getElem h, List.all_append]; simp [lettersB]
theorem lettersB_bad (o : List UInt8) (l : List UInt8) (k : Nat) (h : k < l.length) (hb : okB o l[k] = false) : lettersB o l = false := by
  rw [lettersB, List.all_eq_false]
  exact ⟨l[k], List.getElem_mem h, by simp [hb]⟩
theorem toList_get (s : ByteArray) (k : Nat) (h : k < s.size) : s.data.toList[k]'(by simpa using h) = s[k] := rfl
theorem size_len (s : ByteArray) : s.data.toList.length = s.size := by simp
theorem len_fact (s : ByteArray) (most : Nat) : (!s.toList.isEmpty && decide (s.size ≤ most)) = decide (1 ≤ s.data.toList.length ∧ s.data.toList.length ≤ most) := by
  rw [ByteArray.toList_eq, ← size_len s]
  generalize s.data.toList = l
  cases l <;> simp
theorem nil_fact (s : ByteArray) (h : s.toList = []) (most : Nat) (o : List UInt8) : allB most o s.data.toList = false := by
  rw [ByteArray.toList_eq] at h
  rw [h]; rfl
theorem empty_size {s : ByteArray} (h : s.size = 0) : s = ⟨#[]⟩ := by
  apply ByteArray.ext; apply Array.eq_empty_of_size_eq_zero; exact h
theorem head_get (s : ByteArray) (h : 0 < s.size) : s.data.toList.headD 0 = s[0] := by
  have h' : 0 < s.data.toList.length := by simpa using h
  rw [← toList_get s 0 h]
  have : ∀ (l : List UInt8) (h : 0 < l.length), l.headD 0 = l[0] := by intro l h; cases l with | nil => simp at h | cons a b => rfl
  exact this _ h'
theorem allB_len {most : Nat} {o l : List UInt8} (h : allB most o l = true) : 1 ≤ l.length ∧ l.length ≤ most ∧ lettersB o l = true := by
  simp only [allB, Bool.and_eq_true, decide_eq_true_eq] at h
  exact ⟨h.2.1, h.2.2, h.1⟩
end Go.Proofs.Ytcoapllgpjjbcaa
