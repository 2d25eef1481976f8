/- Spans in plain Lean. Nothing of the program here. -/
import Derived.Test.YtgnodiegippkeaaDoorKit
import Derived.Lib.ItoaNum
namespace Go.Proofs.YtgnodiegippkeaaDoor
set_option linter.unusedVariables false
def twoB (n : Nat) : ByteArray := ⟨#[UInt8.ofNat (48 + n / 10), UInt8.ofNat (48 + n % 10)]⟩
def digB (n : Nat) : ByteArray := ⟨(Lib.decDigits n).toArray⟩
def spanT (n : Nat) : ByteArray := if n % 60 = 0 then digB (n / 3600) ++ ⟨#[58]⟩ ++ twoB (n / 60 % 60) else digB (n / 3600) ++ ⟨#[58]⟩ ++ twoB (n / 60 % 60) ++ (⟨#[58]⟩ ++ twoB (n % 60))
def spOk (n : Int) : Bool := decide (-604800 ≤ n ∧ n ≤ 604800)
def spE (n : Int) : Int := if spOk n then 0 else 1
def spV (n : Int) : ByteArray := if spOk n then (if n < 0 then ⟨#[45]⟩ ++ spanT n.natAbs else spanT n.natAbs) else ⟨#[]⟩
theorem dec_small {n : Nat} (h : n < 10) : Lib.decDigits n = [UInt8.ofNat (48 + n)] := by rw [Lib.decDigits, dif_pos h]
theorem dec_more {n : Nat} (h : ¬ n < 10) : Lib.decDigits n = Lib.decDigits (n / 10) ++ [UInt8.ofNat (48 + n % 10)] := by rw [Lib.decDigits, dif_neg h]
theorem dec_len (n : Nat) : (Lib.decDigits n).length ≤ n + 1 := by
  induction n using Nat.strongRecOn with
  | ind n ih =>
    by_cases h : n < 10
    · rw [dec_small h]; simp
    · rw [dec_more h, List.length_append]
      have := ih (n / 10) (by omega)
      simp only [List.length_cons, List.length_nil]; omega
theorem dec_len3 {n : Nat} (h : n < 1000) : (Lib.decDigits n).length ≤ 3 := by
  by_cases h1 : n < 10
  · rw [dec_small h1]; simp
  · rw [dec_more h1, List.length_append]
    by_cases h2 : n / 10 < 10
    · rw [dec_small h2]; simp
    · rw [dec_more h2, dec_small (show n / 10 / 10 < 10 by omega)]; simp
theorem dec_join {n : Nat} (h : ¬ n < 10) : (⟨(Lib.decDigits (n / 10)).toArray⟩ : ByteArray) ++ ⟨#[UInt8.ofNat (48 + n % 10)]⟩ = ⟨(Lib.decDigits n).toArray⟩ := by
  rw [dec_more h]; apply ByteArray.ext; simp
theorem fixed_small {n : Nat} (h : n < 10) : (⟨#[48]⟩ : ByteArray) ++ ⟨(Lib.decDigits n).toArray⟩ = twoB n := by
  rw [dec_small h, twoB, show n / 10 = 0 by omega, show n % 10 = n by omega]; apply ByteArray.ext; simp
theorem fixed_two {n : Nat} (h : ¬ n < 10) (h2 : n < 100) : (⟨(Lib.decDigits n).toArray⟩ : ByteArray) = twoB n := by
  rw [dec_more h, dec_small (show n / 10 < 10 by omega), twoB]; rfl
theorem dec_size (n : Nat) : (⟨(Lib.decDigits n).toArray⟩ : ByteArray).size = (Lib.decDigits n).length := by simp [ByteArray.size]
theorem spOk_iff {n : Int} : spOk n = true ↔ (-604800 ≤ n ∧ n ≤ 604800) := by simp [spOk]
theorem spV_no {n : Int} (h : spOk n = false) : spV n = ⟨#[]⟩ ∧ spE n = 1 := by simp [spV, spE, h]
theorem spV_pos {m : Nat} (h : m ≤ 604800) : spV (m : Int) = spanT m ∧ spE (m : Int) = 0 := by
  have : spOk (m : Int) = true := spOk_iff.2 (by omega)
  simp [spV, spE, this]; intro; omega
theorem spV_neg {m : Nat} (h : m ≤ 604800) (h0 : 0 < m) : spV (-(m : Int)) = ⟨#[45]⟩ ++ spanT m ∧ spE (-(m : Int)) = 0 := by
  have : spOk (-(m : Int)) = true := spOk_iff.2 (by omega)
  simp only [spV, spE, this, if_true]
  rw [if_pos (by omega)]; simp
theorem span_0 {n : Nat} (h : n % 60 = 0) : spanT n = digB (n / 3600) ++ ⟨#[58]⟩ ++ twoB (n / 60 % 60) := by rw [spanT, if_pos h]
theorem span_1 {n : Nat} (h : ¬ n % 60 = 0) : spanT n = digB (n / 3600) ++ ⟨#[58]⟩ ++ twoB (n / 60 % 60) ++ (⟨#[58]⟩ ++ twoB (n % 60)) := by rw [spanT, if_neg h]
end Go.Proofs.YtgnodiegippkeaaDoor
