/- Stamps in plain Lean. Nothing of the program here. -/
import Derived.Test.YtgnodiegippkeaaDoorSpP
import Derived.Test.YtgnodiegippkeaaDoorDayP
namespace Go.Proofs.YtgnodiegippkeaaDoor
set_option linter.unusedVariables false
def stT (y m d r : Nat) : ByteArray := digB y ++ ⟨#[45]⟩ ++ twoB m ++ ⟨#[45]⟩ ++ twoB d ++ ⟨#[84]⟩ ++ twoB (r / 3600) ++ ⟨#[58]⟩ ++ twoB (r / 60 % 60) ++ ⟨#[58]⟩ ++ twoB (r % 60)
def stE (t : Int) : Int := if dateOk (t / 86400) then 0 else 1
def stV (t : Int) : ByteArray := if dateOk (t / 86400) then stT (dYear (t / 86400)).toNat (dMon (t / 86400)).toNat (dDay (t / 86400)).toNat (t % 86400).toNat else ⟨#[]⟩
theorem st_no {t : Int} (h : dateOk (t / 86400) = false) : stV t = ⟨#[]⟩ ∧ stE t = 1 := by simp [stV, stE, h]
theorem st_ok {t : Int} (h : dateOk (t / 86400) = true) : stV t = stT (dYear (t / 86400)).toNat (dMon (t / 86400)).toNat (dDay (t / 86400)).toNat (t % 86400).toNat ∧ stE t = 0 := by simp [stV, stE, h]
theorem date_nat {n : Int} (h : dateOk n = true) : (∃ y : Nat, dYear n = y ∧ 1600 ≤ y ∧ y ≤ 2399) ∧ (∃ m : Nat, dMon n = m ∧ m < 100) ∧ (∃ d : Nat, dDay n = d ∧ d < 100) := by
  obtain ⟨a1, a2, a3, a4, a5, a6⟩ := dayOk_iff.1 (date_ok n h).1
  have := lenM_bd (dYear n) (dMon n)
  exact ⟨⟨(dYear n).toNat, by omega, by omega, by omega⟩, ⟨(dMon n).toNat, by omega, by omega⟩, ⟨(dDay n).toNat, by omega, by omega⟩⟩
theorem dec_len4 {n : Nat} (h : 1000 ≤ n) (h2 : n < 10000) : (Lib.decDigits n).length = 4 := by
  rw [dec_more (by omega), dec_more (show ¬ n / 10 < 10 by omega), dec_more (show ¬ n / 10 / 10 < 10 by omega), dec_small (show n / 10 / 10 / 10 < 10 by omega)]; rfl
end Go.Proofs.YtgnodiegippkeaaDoor
