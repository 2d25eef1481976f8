/- Rules in plain Lean: which may be. Nothing of the program here. -/
import Derived.Test.YtiiilpfapggihaaStrP
import Derived.Test.YtiiilpfapggihaaDayP
namespace Go.Proofs.Ytiiilpfapggihaa
set_option linter.unusedVariables false
/-- the texts of a rule -/
def ruleS (name letter : ByteArray) : Bool := isNameB name.data.toList && ((letter.toList == [45]) || isAbbrB letter.data.toList)
/-- the numbers of a rule -/
def ruleN (f t m k wd n a b sv : Int) : Bool :=
  decide (1900 ≤ f ∧ f ≤ 2100 ∧ f ≤ t ∧ t ≤ 2100 ∧ 1 ≤ m ∧ m ≤ 12) && dcOk k wd n && decide (n ≤ lenV 1901 m ∧ -604800 ≤ a ∧ a ≤ 604800 ∧ 0 ≤ b ∧ b ≤ 2 ∧ 0 ≤ sv ∧ sv ≤ 10800)
def ruleE (name letter : ByteArray) (f t m k wd n a b sv : Int) : Int := if ruleS name letter then if ruleN f t m k wd n a b sv then 0 else 1 else 3
theorem ruleE_3 {name letter : ByteArray} {f t m k wd n a b sv : Int} (h : ruleS name letter = false) : ruleE name letter f t m k wd n a b sv = 3 := by rw [ruleE, h]; rfl
theorem ruleE_1 {name letter : ByteArray} {f t m k wd n a b sv : Int} (h : ruleS name letter = true) (g : ruleN f t m k wd n a b sv = false) : ruleE name letter f t m k wd n a b sv = 1 := by rw [ruleE, h, g]; rfl
theorem ruleE_0 {name letter : ByteArray} {f t m k wd n a b sv : Int} (h : ruleS name letter = true) (g : ruleN f t m k wd n a b sv = true) : ruleE name letter f t m k wd n a b sv = 0 := by rw [ruleE, h, g]; rfl
theorem ruleN_iff {f t m k wd n a b sv : Int} : ruleN f t m k wd n a b sv = true ↔ (1900 ≤ f ∧ f ≤ 2100 ∧ f ≤ t ∧ t ≤ 2100 ∧ 1 ≤ m ∧ m ≤ 12) ∧ dcOk k wd n = true ∧ (n ≤ lenV 1901 m ∧ -604800 ≤ a ∧ a ≤ 604800 ∧ 0 ≤ b ∧ b ≤ 2 ∧ 0 ≤ sv ∧ sv ≤ 10800) := by
  simp only [ruleN, Bool.and_eq_true, decide_eq_true_eq, and_assoc]
theorem ruleN_no {f t m k wd n a b sv : Int} (h : ¬ ((1900 ≤ f ∧ f ≤ 2100 ∧ f ≤ t ∧ t ≤ 2100 ∧ 1 ≤ m ∧ m ≤ 12) ∧ dcOk k wd n = true ∧ (n ≤ lenV 1901 m ∧ -604800 ≤ a ∧ a ≤ 604800 ∧ 0 ≤ b ∧ b ≤ 2 ∧ 0 ≤ sv ∧ sv ≤ 10800))) : ruleN f t m k wd n a b sv = false := by
  rw [← Bool.not_eq_true, ruleN_iff]; exact h
theorem lenV_1901 (m : Int) : lenV 1999 m = lenV 1901 m := by
  have h1 : longN 1901 = 0 := by decide
  have h2 : longN 1999 = 0 := by decide
  have h3 : lenOk 1999 m = lenOk 1901 m := by rw [lenOk, lenOk, decide_eq_decide]; omega
  unfold lenV; rw [h3]; unfold lenM; rw [h1, h2]
theorem dc_ok {k wd n : Int} (h : dcE k wd n = 0) : dcOk k wd n = true := by
  cases e : dcOk k wd n with
  | true => rfl
  | false => rw [dcE_no e] at h; omega
theorem dc_no {k wd n : Int} (h : ¬ dcE k wd n = 0) : dcOk k wd n = false ∧ dcE k wd n = 1 := by
  cases e : dcOk k wd n with
  | true => exact absurd (dcE_ok e) h
  | false => exact ⟨rfl, dcE_no e⟩
end Go.Proofs.Ytiiilpfapggihaa
