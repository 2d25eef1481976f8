/- Texts of summers in plain Lean. Nothing of the program here. -/
import Derived.Test.YtelgehpfjpbboaaDoorSpP
import Derived.Test.YtelgehpfjpbboaaDoorRiP
namespace Go.Proofs.YtelgehpfjpbboaaDoor
set_option linter.unusedVariables false
def riT (m k d a : Int) : ByteArray := ⟨#[44, 77]⟩ ++ digB m.toNat ++ ⟨#[46]⟩ ++ digB k.toNat ++ ⟨#[46]⟩ ++ digB d.toNat ++ ⟨#[47]⟩ ++ spV a
def teX (name : ByteArray) (off : Int) (also : ByteArray) (aoff : Int) : ByteArray := name ++ spV (-off) ++ also ++ spV (-aoff)
def teT (name also : ByteArray) (off aoff m1 k1 d1 a1 m2 k2 d2 a2 : Int) : ByteArray := if also.size = 0 then name ++ spV (-off) else teX name off also aoff ++ riT m1 k1 d1 a1 ++ riT m2 k2 d2 a2
def teV (name also : ByteArray) (off aoff m1 k1 d1 a1 m2 k2 d2 a2 : Int) : ByteArray := if posE name off also aoff m1 k1 d1 a1 m2 k2 d2 a2 = 0 then teT name also off aoff m1 k1 d1 a1 m2 k2 d2 a2 else ⟨#[]⟩
theorem sp_size (n : Int) : (spV n).size ≤ 21 := by
  rw [spV]
  split
  · rename_i h
    have hr := spOk_iff.1 h
    have h3 := dec_len3 (show n.natAbs / 3600 < 1000 by omega)
    have hs : ∀ n, (twoB n).size = 2 := fun _ => rfl
    have hd : (digB (n.natAbs / 3600)).size = (Lib.decDigits (n.natAbs / 3600)).length := dec_size _
    have h1 : (⟨#[58]⟩ : ByteArray).size = 1 := rfl
    have h2 : (⟨#[45]⟩ : ByteArray).size = 1 := rfl
    have hz : (spanT n.natAbs).size ≤ 20 := by
      rw [spanT]
      split
      · rw [ByteArray.size_append, ByteArray.size_append, hs, hd, h1]; omega
      · rw [ByteArray.size_append, ByteArray.size_append, ByteArray.size_append, ByteArray.size_append, hs, hs, hd, h1]; omega
    split
    · rw [ByteArray.size_append, h2]; omega
    · omega
  · exact Nat.zero_le _
theorem ri_nat {m k d a : Int} (h : riOk m k d a = true) : (∃ x : Nat, m = x ∧ x < 100) ∧ (∃ x : Nat, k = x ∧ x < 100) ∧ (∃ x : Nat, d = x ∧ x < 100) ∧ 0 ≤ a ∧ a ≤ 86400 := by
  have := riOk_iff.1 h
  exact ⟨⟨m.toNat, by omega, by omega⟩, ⟨k.toNat, by omega, by omega⟩, ⟨d.toNat, by omega, by omega⟩, by omega, by omega⟩
theorem riT_size {m k d a : Int} (h : riOk m k d a = true) : (riT m k d a).size ≤ 40 := by
  have hr := riOk_iff.1 h
  have l1 := dec_len3 (show m.toNat < 1000 by omega)
  have l2 := dec_len3 (show k.toNat < 1000 by omega)
  have l3 := dec_len3 (show d.toNat < 1000 by omega)
  have hs := sp_size a
  have hd : ∀ n, (digB n).size = (Lib.decDigits n).length := fun _ => dec_size _
  have z1 : (⟨#[44, 77]⟩ : ByteArray).size = 2 := rfl
  have z2 : (⟨#[46]⟩ : ByteArray).size = 1 := rfl
  have z3 : (⟨#[47]⟩ : ByteArray).size = 1 := rfl
  rw [riT]; simp only [ByteArray.size_append, hd, z1, z2, z3]; omega
section
variable {name also : ByteArray} {off aoff m1 k1 d1 a1 m2 k2 d2 a2 : Int}
theorem te_bad (h : ¬ posE name off also aoff m1 k1 d1 a1 m2 k2 d2 a2 = 0) : teV name also off aoff m1 k1 d1 a1 m2 k2 d2 a2 = ⟨#[]⟩ := by rw [teV, if_neg h]
theorem te_none (h : posE name off also aoff m1 k1 d1 a1 m2 k2 d2 a2 = 0) (h2 : also.size = 0) : teV name also off aoff m1 k1 d1 a1 m2 k2 d2 a2 = name ++ spV (-off) := by rw [teV, if_pos h, teT, if_pos h2]
theorem te_full (h : posE name off also aoff m1 k1 d1 a1 m2 k2 d2 a2 = 0) (h2 : ¬ also.size = 0) : teV name also off aoff m1 k1 d1 a1 m2 k2 d2 a2 = teX name off also aoff ++ riT m1 k1 d1 a1 ++ riT m2 k2 d2 a2 := by rw [teV, if_pos h, teT, if_neg h2]
theorem te_prog : name ++ spV (-off) ++ (also ++ spV (-aoff) ++ riT m1 k1 d1 a1 ++ riT m2 k2 d2 a2) = teX name off also aoff ++ riT m1 k1 d1 a1 ++ riT m2 k2 d2 a2 := by
  simp only [teX, ByteArray.append_assoc]
theorem pos_name (h : posE name off also aoff m1 k1 d1 a1 m2 k2 d2 a2 = 0) : 3 ≤ name.size ∧ name.size ≤ 8 ∧ (also.size = 0 ∨ (3 ≤ also.size ∧ also.size ≤ 8)) ∧ -64800 ≤ off ∧ off ≤ 64800 := by
  have hs : posS name also = true := by
    cases e : posS name also with
    | true => rfl
    | false => rw [pos_s e] at h; cases h
  have ho : -64800 ≤ off ∧ off ≤ 64800 := by
    by_cases ho : -64800 ≤ off ∧ off ≤ 64800
    · exact ho
    · rw [pos_o hs ho] at h; cases h
  obtain ⟨hn, ha⟩ := posS_iff.1 hs
  have h1 := word_size hn
  exact ⟨h1.1, h1.2, ha.imp id (fun h => word_size h), ho⟩
end
theorem pos_facts' {name also : ByteArray} {off aoff m1 k1 d1 a1 m2 k2 d2 a2 : Int} (h : posE name off also aoff m1 k1 d1 a1 m2 k2 d2 a2 = 0) (h2 : ¬ also.size = 0) : (off + 1 ≤ aoff ∧ aoff ≤ off + 10800) ∧ riOk m1 k1 d1 a1 = true ∧ riOk m2 k2 d2 a2 = true := by
  rw [posE] at h
  split at h
  · cases h
  · split at h
    · cases h
    · rename_i g1
      try rw [if_neg h2] at h
      split at h
      · cases h
      · rename_i g2
        split at h
        · cases h
        · rename_i g3
          split at h
          · cases h
          · rename_i g4
            exact ⟨by omega, by simpa using g3, by simpa using g4⟩
def teAcc (X R1 R2 : ByteArray) : Nat → ByteArray
  | 0 => X
  | 1 => X ++ R1
  | _ => X ++ R1 ++ R2
end Go.Proofs.YtelgehpfjpbboaaDoor
