/- Summers: which type at a time, in plain Lean. Nothing of the program here. -/
import Derived.Test.YtelgehpfjpbboaaDoorStP
import Derived.Test.YtelgehpfjpbboaaDoorRtA
import Derived.Test.YtelgehpfjpbboaaDoorDayR
namespace Go.Proofs.YtelgehpfjpbboaaDoor
set_option linter.unusedVariables false
theorem isTime_div (t : Int) : isTimeB t = dateOk (t / 86400) := by
  rw [isTimeB, dateOk, decide_eq_decide]; omega
theorem isTime_iff {t : Int} : isTimeB t = true ↔ (-11676096000 ≤ t ∧ t < 13569465600) := by simp [isTimeB]
def raS (m1 k1 d1 a1 off y : Int) : Int := 86400 * dofV y m1 (rdK k1) d1 (rdN k1) + a1 - off
def raIs (t s e : Int) : Bool := if s < e then decide (s ≤ t ∧ t < e) else decide (s ≤ t ∨ t < e)
def raE (name also : ByteArray) (off aoff m1 k1 d1 a1 m2 k2 d2 a2 t : Int) : Int := if posE name off also aoff m1 k1 d1 a1 m2 k2 d2 a2 = 0 then if dateOk (t / 86400) = true ∧ dateOk ((t + off) / 86400) = true then 0 else 1 else posE name off also aoff m1 k1 d1 a1 m2 k2 d2 a2
abbrev RaT := Int × Bool × ByteArray
def raV (name also : ByteArray) (off aoff m1 k1 d1 a1 m2 k2 d2 a2 t : Int) : RaT := if raE name also off aoff m1 k1 d1 a1 m2 k2 d2 a2 t = 0 then if also.size = 0 then (off, false, name) else if raIs t (raS m1 k1 d1 a1 off (dYear ((t + off) / 86400))) (raS m2 k2 d2 a2 aoff (dYear ((t + off) / 86400))) = true then (aoff, true, also) else (off, false, name) else (0, false, ⟨#[]⟩)
section
variable {name also : ByteArray} {off aoff m1 k1 d1 a1 m2 k2 d2 a2 t : Int}
theorem ra_bad (h : ¬ posE name off also aoff m1 k1 d1 a1 m2 k2 d2 a2 = 0) : raE name also off aoff m1 k1 d1 a1 m2 k2 d2 a2 t = posE name off also aoff m1 k1 d1 a1 m2 k2 d2 a2 ∧ raV name also off aoff m1 k1 d1 a1 m2 k2 d2 a2 t = (0, false, ⟨#[]⟩) := by
  have e : raE name also off aoff m1 k1 d1 a1 m2 k2 d2 a2 t = posE name off also aoff m1 k1 d1 a1 m2 k2 d2 a2 := by rw [raE, if_neg h]
  exact ⟨e, by rw [raV, e, if_neg h]⟩
theorem ra_out (h : posE name off also aoff m1 k1 d1 a1 m2 k2 d2 a2 = 0) (h2 : ¬ (dateOk (t / 86400) = true ∧ dateOk ((t + off) / 86400) = true)) : raE name also off aoff m1 k1 d1 a1 m2 k2 d2 a2 t = 1 ∧ raV name also off aoff m1 k1 d1 a1 m2 k2 d2 a2 t = (0, false, ⟨#[]⟩) := by
  have e : raE name also off aoff m1 k1 d1 a1 m2 k2 d2 a2 t = 1 := by rw [raE, if_pos h, if_neg h2]
  exact ⟨e, by rw [raV, e]; rfl⟩
theorem ra_none (h : posE name off also aoff m1 k1 d1 a1 m2 k2 d2 a2 = 0) (h2 : dateOk (t / 86400) = true ∧ dateOk ((t + off) / 86400) = true) (h3 : also.size = 0) : raE name also off aoff m1 k1 d1 a1 m2 k2 d2 a2 t = 0 ∧ raV name also off aoff m1 k1 d1 a1 m2 k2 d2 a2 t = (off, false, name) := by
  have e : raE name also off aoff m1 k1 d1 a1 m2 k2 d2 a2 t = 0 := by rw [raE, if_pos h, if_pos h2]
  exact ⟨e, by rw [raV, if_pos e, if_pos h3]⟩
theorem ra_yes (h : posE name off also aoff m1 k1 d1 a1 m2 k2 d2 a2 = 0) (h2 : dateOk (t / 86400) = true ∧ dateOk ((t + off) / 86400) = true) (h3 : ¬ also.size = 0) (h4 : raIs t (raS m1 k1 d1 a1 off (dYear ((t + off) / 86400))) (raS m2 k2 d2 a2 aoff (dYear ((t + off) / 86400))) = true) : raE name also off aoff m1 k1 d1 a1 m2 k2 d2 a2 t = 0 ∧ raV name also off aoff m1 k1 d1 a1 m2 k2 d2 a2 t = (aoff, true, also) := by
  have e : raE name also off aoff m1 k1 d1 a1 m2 k2 d2 a2 t = 0 := by rw [raE, if_pos h, if_pos h2]
  exact ⟨e, by rw [raV, if_pos e, if_neg h3, if_pos h4]⟩
theorem ra_not (h : posE name off also aoff m1 k1 d1 a1 m2 k2 d2 a2 = 0) (h2 : dateOk (t / 86400) = true ∧ dateOk ((t + off) / 86400) = true) (h3 : ¬ also.size = 0) (h4 : raIs t (raS m1 k1 d1 a1 off (dYear ((t + off) / 86400))) (raS m2 k2 d2 a2 aoff (dYear ((t + off) / 86400))) = false) : raE name also off aoff m1 k1 d1 a1 m2 k2 d2 a2 t = 0 ∧ raV name also off aoff m1 k1 d1 a1 m2 k2 d2 a2 t = (off, false, name) := by
  have e : raE name also off aoff m1 k1 d1 a1 m2 k2 d2 a2 t = 0 := by rw [raE, if_pos h, if_pos h2]
  exact ⟨e, by rw [raV, if_pos e, if_neg h3, if_neg (by rw [h4]; decide)]⟩
end
theorem year_in {n : Int} (h : dateOk n = true) : 1600 ≤ dYear n ∧ dYear n ≤ 2399 := by
  obtain ⟨a1, a2, _⟩ := dayOk_iff.1 (date_ok n h).1
  exact ⟨a1, a2⟩
/-- the four ways of being in summer, or not -/
theorem ra_ways (t s e : Int) : (raIs t s e = true ∧ ((s < e ∧ s ≤ t ∧ t < e) ∨ (e ≤ s ∧ s ≤ t) ∨ (e ≤ s ∧ t < s ∧ t < e))) ∨ (raIs t s e = false ∧ ((s < e ∧ s ≤ t ∧ e ≤ t) ∨ (s < e ∧ t < s) ∨ (e ≤ s ∧ t < s ∧ e ≤ t))) := by
  rw [raIs]
  by_cases h : s < e
  · rw [if_pos h]
    by_cases h2 : s ≤ t ∧ t < e
    · exact Or.inl ⟨decide_eq_true h2, Or.inl ⟨h, h2⟩⟩
    · exact Or.inr ⟨decide_eq_false h2, by omega⟩
  · rw [if_neg h]
    by_cases h2 : s ≤ t ∨ t < e
    · exact Or.inl ⟨decide_eq_true h2, by omega⟩
    · exact Or.inr ⟨decide_eq_false h2, by omega⟩
theorem raS_bd {m k d a off y : Int} (h : riOk m k d a = true) (hy : 1600 ≤ y ∧ y ≤ 2399) (ho : -100000 ≤ off ∧ off ≤ 100000) : -20000000000 ≤ raS m k d a off y ∧ raS m k d a off y ≤ 20000000000 := by
  obtain ⟨_, b, c⟩ := rd_in h hy
  have := riOk_iff.1 h
  rw [raS]; omega
end Go.Proofs.YtelgehpfjpbboaaDoor
