/- Summers of each year in plain Lean: which may be, and their errors. Nothing of the program here. -/
import Derived.Test.YtgnodiegippkeaaStrP
import Derived.Lib.IndexAny
namespace Go.Proofs.Ytgnodiegippkeaa
set_option linter.unusedVariables false
def wordB (l : List UInt8) : Bool := decide (3 ≤ l.length ∧ l.length ≤ 8) && l.all isLetB
def DIGS : List UInt8 := [48, 49, 50, 51, 52, 53, 54, 55, 56, 57, 43, 45]
theorem u8_all (p : UInt8 → Prop) (h : ∀ i : Fin 256, p (UInt8.ofNat i.val)) (c : UInt8) : p c := by
  have := h ⟨c.toNat, c.toNat_lt⟩
  rwa [show UInt8.ofNat c.toNat = c from UInt8.ofNat_toNat] at this
theorem digs_or (c : UInt8) : (okB [43, 45] c && !DIGS.contains c) = isLetB c := by
  have hd : DIGS.contains c = (isDigB c || [43, 45].contains c) := u8_all (fun c => DIGS.contains c = (isDigB c || [43, 45].contains c)) (by decide +kernel) c
  have hl : isLetB c = true → DIGS.contains c = false := u8_all (fun c => isLetB c = true → DIGS.contains c = false) (by decide +kernel) c
  rw [okB]
  cases h : isLetB c with
  | true => rw [hl h]; rfl
  | false => rw [hd, Bool.false_or]; cases (isDigB c || [43, 45].contains c) <;> rfl
theorem indexAny_iff (chars : List UInt8) : ∀ l : List UInt8, decide (0 ≤ Lib.indexAny l chars) = l.any chars.contains
  | [] => rfl
  | b :: l => by
    have ih := indexAny_iff chars l
    have hg := Lib.indexAny_ge chars l
    rw [Lib.indexAny, List.any_cons, ← ih]
    cases hc : chars.contains b with
    | true => simp
    | false =>
      rw [if_neg Bool.false_ne_true, Bool.false_or]
      by_cases h1 : Lib.indexAny l chars = -1
      · rw [h1]; rfl
      · rw [if_neg (by simpa using h1)]
        rw [decide_eq_decide]; omega
theorem word_eq (l : List UInt8) : (decide (3 ≤ l.length) && isAbbrB l && !decide (0 ≤ Lib.indexAny l DIGS)) = wordB l := by
  rw [indexAny_iff, isAbbrB, allB, wordB, lettersB]
  have h : (l.all (okB [43, 45]) && !l.any DIGS.contains) = l.all isLetB := by
    induction l with
    | nil => rfl
    | cons b l ih =>
      rw [List.all_cons, List.any_cons, List.all_cons, ← ih, ← digs_or b]
      cases okB [43, 45] b <;> cases DIGS.contains b <;> cases l.all (okB [43, 45]) <;> cases l.any DIGS.contains <;> rfl
  rw [← h]
  by_cases h3 : 3 ≤ l.length
  · by_cases h8 : l.length ≤ 8
    · rw [decide_eq_true h3, decide_eq_true (show 1 ≤ l.length ∧ l.length ≤ 8 by omega), decide_eq_true (show 3 ≤ l.length ∧ l.length ≤ 8 by omega)]
      simp
    · rw [decide_eq_false (show ¬ (1 ≤ l.length ∧ l.length ≤ 8) by omega), decide_eq_false (show ¬ (3 ≤ l.length ∧ l.length ≤ 8) by omega)]
      simp
  · rw [decide_eq_false h3, decide_eq_false (show ¬ (3 ≤ l.length ∧ l.length ≤ 8) by omega)]
    simp
theorem abbr_ascii {l : List UInt8} (h : isAbbrB l = true) : ∀ (j : Nat) b, l[j]? = some b → b.toNat < 128 := by
  intro j b hb
  have := (allB_len h).2.2
  rw [lettersB, List.all_eq_true] at this
  have hk := this b (List.mem_of_getElem? hb)
  exact u8_all (fun b => okB [43, 45] b = true → b.toNat < 128) (by decide +kernel) b hk
theorem abbr_max {l : List UInt8} (h : isAbbrB l = true) : 1 ≤ l.length ∧ l.length ≤ 8 := by have := allB_len h; exact ⟨this.1, this.2.1⟩
def riOk (m w d a : Int) : Bool := decide (1 ≤ m ∧ m ≤ 12 ∧ 1 ≤ w ∧ w ≤ 5 ∧ 0 ≤ d ∧ d ≤ 6 ∧ 0 ≤ a ∧ a ≤ 86400)
theorem riOk_iff {m w d a : Int} : riOk m w d a = true ↔ (1 ≤ m ∧ m ≤ 12 ∧ 1 ≤ w ∧ w ≤ 5 ∧ 0 ≤ d ∧ d ≤ 6 ∧ 0 ≤ a ∧ a ≤ 86400) := by simp [riOk]
theorem riOk_no {m w d a : Int} : riOk m w d a = false ↔ ¬ (1 ≤ m ∧ m ≤ 12 ∧ 1 ≤ w ∧ w ≤ 5 ∧ 0 ≤ d ∧ d ≤ 6 ∧ 0 ≤ a ∧ a ≤ 86400) := by rw [← riOk_iff]; cases riOk m w d a <;> simp
def riE (m w d a : Int) : Int := if riOk m w d a then 0 else 1
theorem riE_ok {m w d a : Int} (h : riOk m w d a = true) : riE m w d a = 0 := by rw [riE, h]; rfl
theorem riE_no {m w d a : Int} (h : riOk m w d a = false) : riE m w d a = 1 := by rw [riE, h]; rfl
def posS (name also : ByteArray) : Bool := wordB name.data.toList && (decide (also.size = 0) || wordB also.data.toList)
def posE (name : ByteArray) (off : Int) (also : ByteArray) (aoff m1 w1 d1 a1 m2 w2 d2 a2 : Int) : Int :=
  if posS name also = false then 3 else if ¬ (-64800 ≤ off ∧ off ≤ 64800) then 1
  else if also.size = 0 then if aoff = 0 ∧ m1 = 0 ∧ w1 = 0 ∧ d1 = 0 ∧ a1 = 0 ∧ m2 = 0 ∧ w2 = 0 ∧ d2 = 0 ∧ a2 = 0 then 0 else 5
  else if ¬ (off + 1 ≤ aoff ∧ aoff ≤ off + 10800) then 1
  else if riOk m1 w1 d1 a1 = false then 1 else if riOk m2 w2 d2 a2 = false then 1 else if m1 = m2 then 5 else 0
section
variable {name also : ByteArray} {off aoff m1 w1 d1 a1 m2 w2 d2 a2 : Int}
theorem pos_s (h : posS name also = false) : posE name off also aoff m1 w1 d1 a1 m2 w2 d2 a2 = 3 := by rw [posE, if_pos h]
theorem pos_o (h : posS name also = true) (h2 : ¬ (-64800 ≤ off ∧ off ≤ 64800)) : posE name off also aoff m1 w1 d1 a1 m2 w2 d2 a2 = 1 := by rw [posE, if_neg (by simp [h]), if_pos h2]
theorem pos_n0 (h : posS name also = true) (h2 : -64800 ≤ off ∧ off ≤ 64800) (h3 : also.size = 0) (h4 : aoff = 0 ∧ m1 = 0 ∧ w1 = 0 ∧ d1 = 0 ∧ a1 = 0 ∧ m2 = 0 ∧ w2 = 0 ∧ d2 = 0 ∧ a2 = 0) :
    posE name off also aoff m1 w1 d1 a1 m2 w2 d2 a2 = 0 := by rw [posE, if_neg (by simp [h]), if_neg (by simpa using h2), if_pos h3, if_pos h4]
theorem pos_n5 (h : posS name also = true) (h2 : -64800 ≤ off ∧ off ≤ 64800) (h3 : also.size = 0) (h4 : ¬ (aoff = 0 ∧ m1 = 0 ∧ w1 = 0 ∧ d1 = 0 ∧ a1 = 0 ∧ m2 = 0 ∧ w2 = 0 ∧ d2 = 0 ∧ a2 = 0)) :
    posE name off also aoff m1 w1 d1 a1 m2 w2 d2 a2 = 5 := by rw [posE, if_neg (by simp [h]), if_neg (by simpa using h2), if_pos h3, if_neg h4]
theorem pos_a (h : posS name also = true) (h2 : -64800 ≤ off ∧ off ≤ 64800) (h3 : ¬ also.size = 0) (h4 : ¬ (off + 1 ≤ aoff ∧ aoff ≤ off + 10800)) :
    posE name off also aoff m1 w1 d1 a1 m2 w2 d2 a2 = 1 := by rw [posE, if_neg (by simp [h]), if_neg (by simpa using h2), if_neg h3, if_pos h4]
theorem pos_1 (h : posS name also = true) (h2 : -64800 ≤ off ∧ off ≤ 64800) (h3 : ¬ also.size = 0) (h4 : off + 1 ≤ aoff ∧ aoff ≤ off + 10800) (h5 : riOk m1 w1 d1 a1 = false) :
    posE name off also aoff m1 w1 d1 a1 m2 w2 d2 a2 = 1 := by rw [posE, if_neg (by simp [h]), if_neg (by simpa using h2), if_neg h3, if_neg (by simpa using h4), if_pos h5]
theorem pos_2 (h : posS name also = true) (h2 : -64800 ≤ off ∧ off ≤ 64800) (h3 : ¬ also.size = 0) (h4 : off + 1 ≤ aoff ∧ aoff ≤ off + 10800) (h5 : riOk m1 w1 d1 a1 = true) (h6 : riOk m2 w2 d2 a2 = false) :
    posE name off also aoff m1 w1 d1 a1 m2 w2 d2 a2 = 1 := by rw [posE, if_neg (by simp [h]), if_neg (by simpa using h2), if_neg h3, if_neg (by simpa using h4), if_neg (by simp [h5]), if_pos h6]
theorem pos_5 (h : posS name also = true) (h2 : -64800 ≤ off ∧ off ≤ 64800) (h3 : ¬ also.size = 0) (h4 : off + 1 ≤ aoff ∧ aoff ≤ off + 10800) (h5 : riOk m1 w1 d1 a1 = true) (h6 : riOk m2 w2 d2 a2 = true) (h7 : m1 = m2) :
    posE name off also aoff m1 w1 d1 a1 m2 w2 d2 a2 = 5 := by rw [posE, if_neg (by simp [h]), if_neg (by simpa using h2), if_neg h3, if_neg (by simpa using h4), if_neg (by simp [h5]), if_neg (by simp [h6]), if_pos h7]
theorem pos_0 (h : posS name also = true) (h2 : -64800 ≤ off ∧ off ≤ 64800) (h3 : ¬ also.size = 0) (h4 : off + 1 ≤ aoff ∧ aoff ≤ off + 10800) (h5 : riOk m1 w1 d1 a1 = true) (h6 : riOk m2 w2 d2 a2 = true) (h7 : ¬ m1 = m2) :
    posE name off also aoff m1 w1 d1 a1 m2 w2 d2 a2 = 0 := by rw [posE, if_neg (by simp [h]), if_neg (by simpa using h2), if_neg h3, if_neg (by simpa using h4), if_neg (by simp [h5]), if_neg (by simp [h6]), if_neg h7]
end
theorem em_list {q : ByteArray} (h : q.size = 0) : q.toList = [] := by
  rw [ByteArray.toList_eq]; exact List.length_eq_zero_iff.1 (by rw [size_len]; exact h)
theorem em_isEmpty {q : ByteArray} (h : q.size = 0) : q.toList.isEmpty = true := by rw [em_list h]; rfl
theorem ne_list {q : ByteArray} (h : 1 ≤ q.size) : ¬ q.toList = [] := by
  rw [ByteArray.toList_eq]
  intro hl
  have := size_len q; rw [hl] at this; simp at this; omega
theorem ne_isEmpty {q : ByteArray} (h : 1 ≤ q.size) : q.toList.isEmpty = false := by
  cases hl : q.toList with
  | nil => exact absurd hl (ne_list h)
  | cons => rfl
theorem word_size {q : ByteArray} (h : wordB q.data.toList = true) : 3 ≤ q.size ∧ q.size ≤ 8 := by
  rw [wordB, Bool.and_eq_true, decide_eq_true_eq, size_len] at h; exact h.1
theorem posS_iff {name also : ByteArray} : posS name also = true ↔ wordB name.data.toList = true ∧ (also.size = 0 ∨ wordB also.data.toList = true) := by
  rw [posS, Bool.and_eq_true, Bool.or_eq_true, decide_eq_true_eq]
end Go.Proofs.Ytgnodiegippkeaa
