/- Walk of the reference's Eq at []byte. -/
import Derived.Test.YtcoapllgpjjbcaaEqI
import Derived.Test.YtcoapllgpjjbcaaPkP
namespace Go.Proofs.Ytcoapllgpjjbcaa
open Go.RowKit
set_option linter.unusedVariables false
def byCells (n : Int) : List Value := [byC n]
theorem by_at {w : World} {B : Nat} {A : Option Addr} {xs : List Int} (h : SlAt w B 1 A (xs.map byCells)) {k : Nat} (hk : k < xs.length) :
    ∃ b o, A = some ⟨b, o, none⟩ ∧ b < B ∧ w.cell? ⟨b, o + k, none⟩ = some (.int .u8 xs[k]) := by
  obtain ⟨b, o, h1, h2, h3⟩ := h (by simp; omega)
  have e : (xs.map byCells).getD k [] = byCells xs[k] := by simp [List.getD, hk]
  have h4 := h3 k (by simpa using hk) 0 (by omega)
  rw [e, Nat.mul_one] at h4
  exact ⟨b, o, h1, h2, h4⟩
set_option maxRecDepth 100000 in
set_option maxHeartbeats 2000000 in
theorem r_EqByte (A C : Option Addr) (ca cc : Nat) (xs ys : List Int) (w : World) (hA : SlAt w w.heap.size 1 A (xs.map byCells)) (hC : SlAt w w.heap.size 1 C (ys.map byCells)) (h1 : xs.length ≤ ca) (h2 : ys.length ≤ cc) (m1 : ca ≤ maxLen) (m2 : cc ≤ maxLen) :
    Calls Try.prog 9 #[.slice A xs.length ca, .slice C ys.length cc] w fun e w' => e = .returned (.bool (decide (xs = ys))) ∧ ∃ n, w' = w.drewN n := by
  unfold maxLen at m1 m2
  by_cases hl : xs.length = ys.length
  · have hb : ((xs.length : Int) != (ys.length : Int)) = false := by simp [hl]
    have HL := Lib.hid hl
    clear hl
    go_enter Try.func9, Try.ntmps9
    go_wp2_with fail
    clear hb
    go_loopw [14] (fun i wr => ∃ k : Nat, k ≤ xs.length ∧ i = .int .i64 k ∧ Hid (xs.drop k = ys.drop k → xs = ys) ∧ ∃ n, wr = w.drewN n) (fun i _ => xs.length - (intOf i).toNat)
    case atStart => exact ⟨0, Nat.zero_le _, rfl, Lib.hid (fun h => h), 0, rfl⟩
    case round =>
      obtain ⟨k, hk, rfl, HD, n, rfl⟩ := hrel
      by_cases hlt : k < xs.length
      · have hlt2 : k < ys.length := by have := HL.out; omega
        obtain ⟨b, o, rfl, _, c0⟩ := by_at hA hlt
        obtain ⟨b2, o2, rfl, _, d0⟩ := by_at hC hlt2
        have hi1 : (0 : Int) ≤ (k : Int) := by omega
        have hi2 : (k : Int) < (ys.length : Int) := by omega
        have hi3 : (k : Int) < (xs.length : Int) := by omega
        by_cases he : xs[k] = ys[k]
        · have HN := Lib.hid (eq_step hlt hlt2 HD.out he)
          have he' : (xs[k] != ys[k]) = false := by simp [he]
          obtain ⟨x, hx⟩ : ∃ x, xs[k] = x := ⟨_, rfl⟩
          obtain ⟨y, hy⟩ : ∃ y, ys[k] = y := ⟨_, rfl⟩
          rw [hx] at c0 he'
          rw [hy] at d0 he'
          clear hx hy he
          go_wp2_with fail
          exact ⟨⟨k + 1, by omega, by go_num, HN, _, rfl⟩, by simp [intOf]; omega⟩
        · have HN := Lib.hid (eq_not hlt hlt2 he)
          have he' : (xs[k] != ys[k]) = true := by simp [he]
          obtain ⟨x, hx⟩ : ∃ x, xs[k] = x := ⟨_, rfl⟩
          obtain ⟨y, hy⟩ : ∃ y, ys[k] = y := ⟨_, rfl⟩
          rw [hx] at c0 he'
          rw [hy] at d0 he'
          clear hx hy he
          go_wp2_with fail
          go_ret
          exact ⟨ret_bool (decide_eq_false HN.out).symm, _, rfl⟩
      · obtain rfl : k = xs.length := by omega
        have HN := Lib.hid (HD.out (drop_end HL.out))
        go_wp2_with fail
        go_ret
        exact ⟨ret_bool (decide_eq_true HN.out).symm, _, rfl⟩
  · have hb : ((xs.length : Int) != (ys.length : Int)) = true := by rw [bne_iff_ne]; omega
    have HN := Lib.hid (show ¬ xs = ys from fun e => hl (by rw [e]))
    clear hl
    go_enter Try.func9, Try.ntmps9
    go_wp2_with fail
    go_ret
    exact ⟨ret_bool (decide_eq_false HN.out).symm, 0, rfl⟩
end Go.Proofs.Ytcoapllgpjjbcaa
