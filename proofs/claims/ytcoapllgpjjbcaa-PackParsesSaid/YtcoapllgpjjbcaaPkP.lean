/- Numbers as bytes, in plain Lean. Nothing of the program here. -/
import Derived.Test.YtcoapllgpjjbcaaTabQ
namespace Go.Proofs.Ytcoapllgpjjbcaa
set_option linter.unusedVariables false
/-- so many bytes of a number, the greatest first -/
def beL : Int → Nat → List Int
  | _, 0 => []
  | n, k + 1 => beL (n / 256) k ++ [n % 256]
theorem beL_length : ∀ (n : Int) (k : Nat), (beL n k).length = k
  | _, 0 => rfl
  | n, k + 1 => by rw [beL, List.length_append, beL_length (n / 256) k]; rfl
theorem beL_step (n : Int) (m j : Nat) (hj : j < m) : beL (n / 256 ^ j) (m - j) = beL (n / 256 ^ (j + 1)) (m - (j + 1)) ++ [n / 256 ^ j % 256] := by
  rw [show m - j = (m - (j + 1)) + 1 by omega, beL, Int.ediv_ediv_of_nonneg (Int.le_of_lt (Int.pow_pos (by omega))), Int.pow_succ]
theorem beL_byte {n : Int} : ∀ {k : Nat}, ∀ x ∈ beL n k, 0 ≤ x ∧ x ≤ 255
  | 0, x, h => by simp [beL] at h
  | k + 1, x, h => by
    rw [beL, List.mem_append] at h
    rcases h with h | h
    · exact beL_byte x h
    · simp at h; omega
theorem pow_8 (i : Nat) : (2 : Int) ^ (8 * i) = 256 ^ i := by rw [Int.pow_mul]; rfl
def byC (n : Int) : Value := .int .u8 n
/-- a name's bytes -/
def nmB (s : ByteArray) : List Int := s.data.toList.map fun b => (b.toNat : Int)
theorem nmB_length (s : ByteArray) : (nmB s).length = s.size := by unfold nmB; rw [List.length_map]; rfl
def svB (b : Bool) : Int := if b then 1 else 0
def pkT (x : Ty) : List Int := beL (x.1 + 2147483648) 4 ++ [svB x.2.1, (x.2.2.size : Int)] ++ nmB x.2.2
def pkC (c : Ch) : List Int := beL (c.1 + 9223372036854775808) 8 ++ [c.2]
def pkH (ts : List Ty) (first : Int) (cs : List Ch) : List Int := [84, 90, 98, 49, (ts.length : Int), first] ++ beL (cs.length : Int) 2
def pkTs (ts : List Ty) (k : Nat) : List Int := (ts.take k).flatMap pkT
def pkCs (cs : List Ch) (k : Nat) : List Int := (cs.take k).flatMap pkC
def pkL (ts : List Ty) (first : Int) (cs : List Ch) : List Int := pkH ts first cs ++ pkTs ts ts.length ++ pkCs cs cs.length
theorem pkTs_succ {ts : List Ty} {k : Nat} (h : k < ts.length) : pkTs ts (k + 1) = pkTs ts k ++ pkT ts[k] := by
  unfold pkTs; rw [List.take_succ_eq_append_getElem h, List.flatMap_append]; simp
theorem pkCs_succ {cs : List Ch} {k : Nat} (h : k < cs.length) : pkCs cs (k + 1) = pkCs cs k ++ pkC cs[k] := by
  unfold pkCs; rw [List.take_succ_eq_append_getElem h, List.flatMap_append]; simp
theorem pkT_length (x : Ty) : (pkT x).length = 6 + x.2.2.size := by
  unfold pkT; rw [List.length_append, List.length_append, beL_length, nmB_length]; rfl
theorem pkC_length (c : Ch) : (pkC c).length = 9 := by unfold pkC; rw [List.length_append, beL_length]; rfl
theorem pkTs_length {ts : List Ty} (hn : ∀ t ∈ ts, t.2.2.size ≤ 8) : ∀ {k : Nat}, k ≤ ts.length → (pkTs ts k).length ≤ 14 * k
  | 0, _ => by simp [pkTs]
  | k + 1, h => by
    have h1 := hn _ (List.getElem_mem (show k < ts.length by omega))
    have h2 := pkTs_length hn (show k ≤ ts.length by omega)
    rw [pkTs_succ (by omega), List.length_append, pkT_length]; omega
theorem pkCs_length {cs : List Ch} : ∀ {k : Nat}, k ≤ cs.length → (pkCs cs k).length = 9 * k
  | 0, _ => by simp [pkCs]
  | k + 1, h => by
    have h2 := pkCs_length (cs := cs) (show k ≤ cs.length by omega)
    rw [pkCs_succ (by omega), List.length_append, pkC_length]; omega
end Go.Proofs.Ytcoapllgpjjbcaa
