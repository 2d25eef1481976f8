/- Texts of days in plain Lean. Nothing of the program here. -/
import Derived.Test.YtgnodiegippkeaaDoorDayP
import Derived.Lib.ItoaNum
namespace Go.Proofs.YtgnodiegippkeaaDoor
set_option linter.unusedVariables false
def WK : ByteArray := ⟨#[83, 117, 110, 77, 111, 110, 84, 117, 101, 87, 101, 100, 84, 104, 117, 70, 114, 105, 83, 97, 116]⟩
def wordV (wd : Int) : ByteArray := WK.extract (3 * wd).toNat (3 * wd + 3).toNat
def digV (n : Int) : ByteArray := ⟨(Lib.decDigits n.toNat).toArray⟩
def dtT (k wd n : Int) : ByteArray :=
  if k = 2 then ⟨#[108, 97, 115, 116]⟩ ++ wordV wd else if k = 3 then wordV wd ++ ⟨#[62, 61]⟩ ++ digV n else if k = 4 then wordV wd ++ ⟨#[60, 61]⟩ ++ digV n else digV n
def dtV (k wd n : Int) : ByteArray := if dcOk k wd n then dtT k wd n else ⟨#[]⟩
theorem dtV_no {k wd n : Int} (h : dcOk k wd n = false) : dtV k wd n = ⟨#[]⟩ := by rw [dtV, h]; rfl
theorem dtV_ok {k wd n : Int} (h : dcOk k wd n = true) : dtV k wd n = dtT k wd n := by rw [dtV, h]; rfl
theorem dtT_1 {wd n : Int} : dtT 1 wd n = digV n := rfl
theorem dtT_2 {wd n : Int} : dtT 2 wd n = ⟨#[108, 97, 115, 116]⟩ ++ wordV wd := rfl
theorem dtT_3 {wd n : Int} : dtT 3 wd n = wordV wd ++ ⟨#[62, 61]⟩ ++ digV n := rfl
theorem dtT_4 {wd n : Int} : dtT 4 wd n = wordV wd ++ ⟨#[60, 61]⟩ ++ digV n := rfl
theorem wk_size : WK.size = 21 := rfl
theorem dig_small {n : Nat} (h : n < 10) : Lib.decDigits n = [UInt8.ofNat (48 + n)] := by rw [Lib.decDigits, dif_pos h]
theorem dig_two {n : Nat} (h : ¬ n < 10) : Lib.decDigits n = Lib.decDigits (n / 10) ++ [UInt8.ofNat (48 + n % 10)] := by rw [Lib.decDigits, dif_neg h]
theorem dig_size {n : Nat} (h : n < 100) : (⟨(Lib.decDigits n).toArray⟩ : ByteArray).size ≤ 2 := by
  by_cases h1 : n < 10
  · rw [dig_small h1]; show 1 ≤ 2; omega
  · rw [dig_two h1, dig_small (show n / 10 < 10 by omega)]; show 2 ≤ 2; omega
theorem word_sz {wd : Int} (h : 0 ≤ wd ∧ wd ≤ 6) : (wordV wd).size = 3 := by
  rw [wordV, ByteArray.size_extract, wk_size]; omega
theorem day_cases {k wd n : Int} (h : dcOk k wd n = true) : (k = 1 ∨ k = 2 ∨ k = 3 ∨ k = 4) ∧ (∃ j : Nat, wd = j ∧ j ≤ 6) ∧ ∃ m : Nat, n = m ∧ m ≤ 31 := by
  have := dcOk_iff.1 h
  refine ⟨by omega, ⟨wd.toNat, by omega, by omega⟩, n.toNat, by omega, by omega⟩
theorem digits_two {n : Nat} (h : ¬ n < 10) : (⟨(Lib.decDigits (n / 10)).toArray⟩ : ByteArray) ++ ⟨#[UInt8.ofNat (48 + n % 10)]⟩ = ⟨(Lib.decDigits n).toArray⟩ := by
  rw [dig_two h]; apply ByteArray.ext; simp
theorem byte_chr {n : Int} (h : 0 ≤ n) (h2 : n < 256) : ((UInt8.ofNat n.toNat).toNat : Int) = n := by
  simp [UInt8.toNat_ofNat']; omega
end Go.Proofs.YtgnodiegippkeaaDoor
