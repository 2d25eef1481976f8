/- Days of a month in plain integers: which may be, and which day of the calendar they are. Nothing of the program here. -/
import Derived.Test.YtgnodiegippkeaaDoorCivP
namespace Go.Proofs.YtgnodiegippkeaaDoor
set_option linter.unusedVariables false
def dcOk (k wd n : Int) : Bool := decide ((k = 1 ∧ wd = 0 ∧ 1 ≤ n ∧ n ≤ 31) ∨ (k = 2 ∧ 0 ≤ wd ∧ wd ≤ 6 ∧ n = 0) ∨ ((k = 3 ∨ k = 4) ∧ 0 ≤ wd ∧ wd ≤ 6 ∧ 1 ≤ n ∧ n ≤ 31))
def dcE (k wd n : Int) : Int := if dcOk k wd n then 0 else 1
theorem dcOk_iff {k wd n : Int} : dcOk k wd n = true ↔ ((k = 1 ∧ wd = 0 ∧ 1 ≤ n ∧ n ≤ 31) ∨ (k = 2 ∧ 0 ≤ wd ∧ wd ≤ 6 ∧ n = 0) ∨ ((k = 3 ∨ k = 4) ∧ 0 ≤ wd ∧ wd ≤ 6 ∧ 1 ≤ n ∧ n ≤ 31)) := by simp [dcOk]
theorem dcOk_no {k wd n : Int} : dcOk k wd n = false ↔ ¬ ((k = 1 ∧ wd = 0 ∧ 1 ≤ n ∧ n ≤ 31) ∨ (k = 2 ∧ 0 ≤ wd ∧ wd ≤ 6 ∧ n = 0) ∨ ((k = 3 ∨ k = 4) ∧ 0 ≤ wd ∧ wd ≤ 6 ∧ 1 ≤ n ∧ n ≤ 31)) := by
  rw [← dcOk_iff]; cases dcOk k wd n <;> simp
theorem dcE_ok {k wd n : Int} (h : dcOk k wd n = true) : dcE k wd n = 0 := by rw [dcE, h]; rfl
theorem dcE_no {k wd n : Int} (h : dcOk k wd n = false) : dcE k wd n = 1 := by rw [dcE, h]; rfl
/-- where Of looks from: the day told, or the month's last one -/
def dofS (y m k n : Int) : Int := if k = 2 then daysN y m 1 + lenM y m - 1 else daysN y m 1 + n - 1
def dofAt (y m k wd n : Int) : Int :=
  if k = 1 then dofS y m k n else if k = 3 then dofS y m k n + (wd - dofS y m k n - 4) % 7 else dofS y m k n - (dofS y m k n + 4 - wd) % 7
def dofE (y m k wd n : Int) : Int := if dcOk k wd n then if lenOk y m then if lenM y m < n then 6 else if dateOk (dofAt y m k wd n) then 0 else 1 else 1 else 1
def dofV (y m k wd n : Int) : Int := if dofE y m k wd n = 0 then dofAt y m k wd n else 0
theorem dof_bad {y m k wd n : Int} (h : dcOk k wd n = false) : dofV y m k wd n = 0 ∧ dofE y m k wd n = 1 := by simp [dofV, dofE, h]
theorem dof_len {y m k wd n : Int} (h : dcOk k wd n = true) (h2 : lenOk y m = false) : dofV y m k wd n = 0 ∧ dofE y m k wd n = 1 := by simp [dofV, dofE, h, h2]
theorem dof_none {y m k wd n : Int} (h : dcOk k wd n = true) (h2 : lenOk y m = true) (h3 : lenM y m < n) : dofV y m k wd n = 0 ∧ dofE y m k wd n = 6 := by simp [dofV, dofE, h, h2, h3]
theorem dof_out {y m k wd n : Int} (h : dcOk k wd n = true) (h2 : lenOk y m = true) (h3 : n ≤ lenM y m) (h4 : dateOk (dofAt y m k wd n) = false) : dofV y m k wd n = 0 ∧ dofE y m k wd n = 1 := by
  simp [dofV, dofE, h, h2, show ¬ lenM y m < n by omega, h4]
theorem dof_in {y m k wd n : Int} (h : dcOk k wd n = true) (h2 : lenOk y m = true) (h3 : n ≤ lenM y m) (h4 : dateOk (dofAt y m k wd n) = true) : dofV y m k wd n = dofAt y m k wd n ∧ dofE y m k wd n = 0 := by
  simp [dofV, dofE, h, h2, show ¬ lenM y m < n by omega, h4]
theorem dateOk_iff {n : Int} : dateOk n = true ↔ (-135140 ≤ n ∧ n ≤ 157053) := by simp [dateOk]
theorem dateOk_no {n : Int} : dateOk n = false ↔ ¬ (-135140 ≤ n ∧ n ≤ 157053) := by simp [dateOk]
theorem month_in {y m : Int} (h : lenOk y m = true) : -135140 ≤ daysN y m 1 ∧ daysN y m 1 + lenM y m - 1 ≤ 157053 := by
  obtain ⟨h1, h2, h3, h4⟩ := lenOk_iff.1 h
  have b := lenM_bd y m
  have a := dateOk_iff.1 (days_in (dayOk_iff.2 ⟨h1, h2, h3, h4, show (1:Int) ≤ 1 by omega, by omega⟩))
  have c := dateOk_iff.1 (days_in (dayOk_iff.2 ⟨h1, h2, h3, h4, show (1:Int) ≤ lenM y m by omega, Int.le_refl _⟩))
  unfold daysN at *; omega
theorem dofS_in {y m k n : Int} (h : lenOk y m = true) (h3 : n ≤ lenM y m) (h4 : k = 2 ∨ 1 ≤ n) : -135140 ≤ dofS y m k n ∧ dofS y m k n ≤ 157053 := by
  have := month_in h
  have := lenM_bd y m
  unfold dofS; split <;> omega
end Go.Proofs.YtgnodiegippkeaaDoor
