/- Plain: what reading a day comes to. No program in sight. -/
import Derived.Test.YtanaoohgpdcfjaaGreatDoorRdP
import Derived.Lib.CutLaws
import Derived.Lib.SlicesS
namespace Go.Proofs.YtanaoohgpdcfjaaGreatDoor
set_option linter.unusedVariables false
theorem index_miss {x y : UInt8} : ∀ {l : List UInt8}, x ∉ l → Lib.index l [x, y] = -1
  | [], _ => rfl
  | b :: l, h => by
    have h1 : (x == b) = false := by rw [beq_eq_false_iff_ne]; intro e; exact h (by simp [e])
    have h2 : x ∉ l := fun e => h (by simp [e])
    rw [Lib.index, index_miss h2]
    simp [List.isPrefixOf, h1]
theorem index_hit {x y : UInt8} (d : List UInt8) : ∀ {a : List UInt8}, x ∉ a → Lib.index (a ++ x :: y :: d) [x, y] = a.length
  | [], _ => by rw [List.nil_append, Lib.index]; simp [List.isPrefixOf]
  | b :: l, h => by
    have h1 : (x == b) = false := by rw [beq_eq_false_iff_ne]; intro e; exact h (by simp [e])
    have h2 : x ∉ l := fun e => h (by simp [e])
    rw [List.cons_append, Lib.index, index_hit d h2]
    simp [List.isPrefixOf, h1]
theorem cut_miss {x y : UInt8} {l : List UInt8} (h : x ∉ l) : Lib.cut l [x, y] = (l, [], false) := by
  unfold Lib.cut
  rw [index_miss h, if_neg (by omega)]
theorem cut_hit {x y : UInt8} {a d : List UInt8} (h : x ∉ a) : Lib.cut (a ++ x :: y :: d) [x, y] = (a, d, true) := by
  unfold Lib.cut
  rw [index_hit d h, if_pos (by omega)]
  simp
def wordL (wd : Int) : List UInt8 := (wordV wd).data.toList
def digL (n : Int) : List UInt8 := Lib.decDigits n.toNat
theorem wordL_is {wd : Int} (h : 0 ≤ wd ∧ wd ≤ 6) : ∃ a b c, wordL wd = [a, b, c] ∧ 65 ≤ a.toNat ∧ 65 ≤ b.toNat ∧ 65 ≤ c.toNat ∧ a ≠ 108 := by
  obtain ⟨j, rfl, hj⟩ : ∃ j : Nat, wd = j ∧ j ≤ 6 := ⟨wd.toNat, by omega, by omega⟩
  rcases (show j = 0 ∨ j = 1 ∨ j = 2 ∨ j = 3 ∨ j = 4 ∨ j = 5 ∨ j = 6 by omega) with rfl | rfl | rfl | rfl | rfl | rfl | rfl
  all_goals exact ⟨_, _, _, rfl, by decide, by decide, by decide, by decide⟩
theorem dec_pos' (n : Nat) : 1 ≤ (Lib.decDigits n).length := by
  by_cases h : n < 10
  · rw [dec_small h]; simp
  · rw [dec_more h]; simp
theorem digL_dg (n : Int) : ∀ c ∈ digL n, isDg c := dec_dg _
theorem digL_val {n : Int} (h : 0 ≤ n ∧ n ≤ 31) : atV (digL n) = n := by
  have e := dec_val n.toNat
  rw [digL, atV_dg (dec_dg _) (by intro e; have := dec_pos' n.toNat; rw [e] at this; simp at this) (by omega), e]
  omega
/-- a day's text, byte by byte -/
def dtL (k wd n : Int) : List UInt8 := if k = 2 then 108 :: 97 :: 115 :: 116 :: wordL wd else if k = 3 then wordL wd ++ 62 :: 61 :: digL n else if k = 4 then wordL wd ++ 60 :: 61 :: digL n else digL n
theorem dtL_eq {k wd n : Int} (h : dcOk k wd n = true) : (dtV k wd n).data.toList = dtL k wd n := by
  rw [dtV_ok h, dtT, dtL]
  split
  · simp [wordL]
  · split
    · simp [wordL, digL, digV]
    · split
      · simp [wordL, digL, digV]
      · simp [digL, digV]
theorem no_sign {x : UInt8} (hx : x = 60 ∨ x = 62) {k wd n : Int} (h : dcOk k wd n = true) : x ∉ wordL wd ∧ x ∉ digL n := by
  constructor
  · intro hm
    have hw : 0 ≤ wd ∧ wd ≤ 6 := by have := dcOk_iff.1 h; omega
    obtain ⟨a, b, c, e, h1, h2, h3, _⟩ := wordL_is hw
    rw [e] at hm
    simp at hm
    have hx' : x.toNat < 65 := by rcases hx with rfl | rfl <;> decide
    rcases hm with rfl | rfl | rfl <;> omega
  · intro hm
    have := digL_dg n x hm
    unfold isDg at this
    rcases hx with rfl | rfl <;> revert this <;> decide
theorem no_last {x : UInt8} (hx : x = 60 ∨ x = 62) {l : List UInt8} (h : x ∉ l) : x ∉ 108 :: 97 :: 115 :: 116 :: l := by
  simp
  refine ⟨?_, ?_, ?_, ?_, h⟩ <;> rcases hx with rfl | rfl <;> decide
theorem cut_ge {k wd n : Int} (h : dcOk k wd n = true) : (k = 3 → Lib.cut (dtL k wd n) [62, 61] = (wordL wd, digL n, true)) ∧ (k ≠ 3 → (Lib.cut (dtL k wd n) [62, 61]).2.2 = false) := by
  obtain ⟨h1, h2⟩ := no_sign (x := 62) (Or.inr rfl) h
  obtain ⟨h3, h4⟩ := no_sign (x := 60) (Or.inl rfl) h
  refine ⟨fun e => ?_, fun e => ?_⟩
  · subst e; exact cut_hit h1
  · have : (62 : UInt8) ∉ dtL k wd n := by
      rcases day_cases h with ⟨hk, _⟩
      rcases hk with rfl | rfl | rfl | rfl
      · exact h2
      · exact no_last (Or.inr rfl) h1
      · exact absurd rfl e
      · show (62 : UInt8) ∉ wordL wd ++ _ :: 61 :: digL n
        simp; exact ⟨h1, h2⟩
    rw [cut_miss this]
theorem cut_le {k wd n : Int} (h : dcOk k wd n = true) : (k = 4 → Lib.cut (dtL k wd n) [60, 61] = (wordL wd, digL n, true)) ∧ (k ≠ 4 → (Lib.cut (dtL k wd n) [60, 61]).2.2 = false) := by
  obtain ⟨h1, h2⟩ := no_sign (x := 62) (Or.inr rfl) h
  obtain ⟨h3, h4⟩ := no_sign (x := 60) (Or.inl rfl) h
  refine ⟨fun e => ?_, fun e => ?_⟩
  · subst e; exact cut_hit h3
  · have : (60 : UInt8) ∉ dtL k wd n := by
      rcases day_cases h with ⟨hk, _⟩
      rcases hk with rfl | rfl | rfl | rfl
      · exact h4
      · exact no_last (Or.inl rfl) h3
      · show (60 : UInt8) ∉ wordL wd ++ _ :: 61 :: digL n
        simp; exact ⟨h3, h4⟩
      · exact absurd rfl e
    rw [cut_miss this]
theorem pre_last {k wd n : Int} (h : dcOk k wd n = true) : (k = 2 → Lib.hasPrefix (dtL k wd n) [108, 97, 115, 116] = true ∧ Lib.trimPrefix (dtL k wd n) [108, 97, 115, 116] = wordL wd) ∧ (k ≠ 2 → Lib.hasPrefix (dtL k wd n) [108, 97, 115, 116] = false) := by
  have hw : 0 ≤ wd ∧ wd ≤ 6 := by have := dcOk_iff.1 h; omega
  obtain ⟨a, b, c, ew, _, _, _, h4⟩ := wordL_is hw
  have h5 : ((108 : UInt8) == a) = false := by rw [beq_eq_false_iff_ne]; exact fun e => h4 e.symm
  refine ⟨fun e => ?_, fun e => ?_⟩
  · subst e; exact ⟨rfl, rfl⟩
  · have hd : Lib.hasPrefix (digL n) [108, 97, 115, 116] = false := by
      cases e : digL n with
      | nil => rfl
      | cons x r =>
        have := digL_dg n x (by rw [e]; simp)
        have h6 : ((108 : UInt8) == x) = false := by rw [beq_eq_false_iff_ne]; rintro rfl; unfold isDg at this; revert this; decide
        simp [Lib.hasPrefix, List.isPrefixOf, h6]
    unfold dtL
    rw [if_neg e, ew]
    split
    · simp [Lib.hasPrefix, List.isPrefixOf, h5]
    · split
      · simp [Lib.hasPrefix, List.isPrefixOf, h5]
      · exact hd
/-- where a word stands among the days' names -/
def dayB : List ByteArray := [⟨#[83, 117, 110]⟩, ⟨#[77, 111, 110]⟩, ⟨#[84, 117, 101]⟩, ⟨#[87, 101, 100]⟩, ⟨#[84, 104, 117]⟩, ⟨#[70, 114, 105]⟩, ⟨#[83, 97, 116]⟩]
def wkI (l : List UInt8) : Int := Lib.idxOfS dayB ⟨l.toArray⟩
theorem wkI_word {wd : Int} (h : 0 ≤ wd ∧ wd ≤ 6) : wkI (wordL wd) = wd := by
  obtain ⟨j, rfl, hj⟩ : ∃ j : Nat, wd = j ∧ j ≤ 6 := ⟨wd.toNat, by omega, by omega⟩
  rcases (show j = 0 ∨ j = 1 ∨ j = 2 ∨ j = 3 ∨ j = 4 ∨ j = 5 ∨ j = 6 by omega) with rfl | rfl | rfl | rfl | rfl | rfl | rfl
  all_goals rfl
/-- what reading a day's text answers -/
def RdDy (s : ByteArray) (k wd n er : Int) : Prop := (dcOk k wd n = true ∧ dtV k wd n = s ∧ er = 0) ∨ ((∀ k wd n, dcOk k wd n = true → dtV k wd n ≠ s) ∧ k = 0 ∧ wd = 0 ∧ n = 0 ∧ er = 3)
theorem dt_one {k wd n k' wd' n' : Int} (h : dcOk k wd n = true) (h' : dcOk k' wd' n' = true) (e : dtV k wd n = dtV k' wd' n') : k = k' ∧ wd = wd' ∧ n = n' := by
  have e0 : dtL k wd n = dtL k' wd' n' := by rw [← dtL_eq h, ← dtL_eq h', e]
  have a := dcOk_iff.1 h
  have a' := dcOk_iff.1 h'
  have c1 := cut_ge h; have c2 := cut_ge h'; have d1 := cut_le h; have d2 := cut_le h'; have p1 := pre_last h; have p2 := pre_last h'
  rw [e0] at c1 d1 p1
  have hk : k = k' := by
    have x3 : k = 3 ↔ k' = 3 := by
      constructor
      · intro q; refine Classical.byContradiction fun q' => ?_
        have := c2.2 q'; rw [c1.1 q] at this; cases this
      · intro q; refine Classical.byContradiction fun q' => ?_
        have := c1.2 q'; rw [c2.1 q] at this; cases this
    have x4 : k = 4 ↔ k' = 4 := by
      constructor
      · intro q; refine Classical.byContradiction fun q' => ?_
        have := d2.2 q'; rw [d1.1 q] at this; cases this
      · intro q; refine Classical.byContradiction fun q' => ?_
        have := d1.2 q'; rw [d2.1 q] at this; cases this
    have x2 : k = 2 ↔ k' = 2 := by
      constructor
      · intro q; refine Classical.byContradiction fun q' => ?_
        have := p2.2 q'; rw [(p1.1 q).1] at this; cases this
      · intro q; refine Classical.byContradiction fun q' => ?_
        have := p1.2 q'; rw [(p2.1 q).1] at this; cases this
    omega
  subst hk
  have hn : digL n = digL n' → 0 ≤ n ∧ n ≤ 31 → 0 ≤ n' ∧ n' ≤ 31 → n = n' := fun q r r' => by rw [← digL_val r, ← digL_val r', q]
  have hw : wordL wd = wordL wd' → 0 ≤ wd ∧ wd ≤ 6 → 0 ≤ wd' ∧ wd' ≤ 6 → wd = wd' := fun q r r' => by rw [← wkI_word r, ← wkI_word r', q]
  rcases (show k = 1 ∨ k = 2 ∨ k = 3 ∨ k = 4 by omega) with rfl | rfl | rfl | rfl
  · have q : digL n = digL n' := e0
    exact ⟨rfl, by omega, hn q (by omega) (by omega)⟩
  · have q := (p1.1 rfl).2.symm.trans (p2.1 rfl).2
    exact ⟨rfl, hw q (by omega) (by omega), by omega⟩
  · have q := (c1.1 rfl).symm.trans (c2.1 rfl)
    simp only [Prod.mk.injEq] at q
    exact ⟨rfl, hw q.1 (by omega) (by omega), hn q.2.1 (by omega) (by omega)⟩
  · have q := (d1.1 rfl).symm.trans (d2.1 rfl)
    simp only [Prod.mk.injEq] at q
    exact ⟨rfl, hw q.1 (by omega) (by omega), hn q.2.1 (by omega) (by omega)⟩
theorem RdDy.one {s : ByteArray} {k wd n er k' wd' n' er' : Int} (h : RdDy s k wd n er) (h' : RdDy s k' wd' n' er') : k = k' ∧ wd = wd' ∧ n = n' ∧ er = er' := by
  rcases h with ⟨h1, h2, rfl⟩ | ⟨h1, rfl, rfl, rfl, rfl⟩
  · rcases h' with ⟨h3, h4, rfl⟩ | ⟨h3, _⟩
    · obtain ⟨a, b, c⟩ := dt_one h1 h3 (h2.trans h4.symm)
      exact ⟨a, b, c, rfl⟩
    · exact absurd h2 (h3 _ _ _ h1)
  · rcases h' with ⟨h3, h4, rfl⟩ | ⟨_, rfl, rfl, rfl, rfl⟩
    · exact absurd h4 (h1 _ _ _ h3)
    · exact ⟨rfl, rfl, rfl, rfl⟩
end Go.Proofs.YtanaoohgpdcfjaaGreatDoor
