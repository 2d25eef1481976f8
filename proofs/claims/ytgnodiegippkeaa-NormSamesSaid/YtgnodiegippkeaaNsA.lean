/- Walks of slices.Equal at types and at changes, and of the checks of two tables. -/
import Derived.Test.YtgnodiegippkeaaNmA
import Derived.Test.YtgnodiegippkeaaTabA
import Derived.Test.YtgnodiegippkeaaTabR
import Derived.BigQuiet
namespace Go.Proofs.Ytgnodiegippkeaa
open Go.RowKit
set_option linter.unusedVariables false
attribute [local go_sem ↓] Go.wp_at_zero Go.wp_at_succ
theorem ret_b {b c : Bool} (h : b = c) : Ending.returned (.bool b) = Ending.returned (.bool c) := by rw [h]
set_option maxRecDepth 100000 in
set_option maxHeartbeats 1000000 in
theorem run_eq_ch (x y : Ch) (w : World) : (Op.equalIn 10000 84 (.agg #[.int .i64 x.1, .int .i64 x.2]) (.agg #[.int .i64 y.1, .int .i64 y.2])).run Try.prog w = .ok (decide (x = y)) w := by
  by_cases h : x = y
  · subst h
    go_simp
  · rw [decide_eq_false h]
    by_cases h1 : x.1 = y.1
    · have h2 : ¬ x.2 = y.2 := fun e => h (Prod.ext h1 e)
      have e1 : (x.1 == y.1) = true := by simpa using h1
      have e2 : (x.2 == y.2) = false := by simpa using h2
      go_simp
    · have e1 : (x.1 == y.1) = false := by simpa using h1
      go_simp
theorem list_eq_at {α : Type} {xs ys : List α} (h : xs.length = ys.length) (h2 : ∀ j (h1 : j < xs.length) (h3 : j < ys.length), xs[j] = ys[j]) : xs = ys := List.ext_getElem h (fun j a b => h2 j a b)
set_option maxRecDepth 100000 in
set_option maxHeartbeats 2000000 in
theorem s_EqualTy (A B : Option Addr) (capA capB : Nat) (xs ys : List Ty) (w : World) (hA : SlAt w w.heap.size 3 A (xs.map tyCells)) (hB : SlAt w w.heap.size 3 B (ys.map tyCells)) (h1 : xs.length ≤ capA) (m1 : capA ≤ maxLen) (h2 : ys.length ≤ capB) (m2 : capB ≤ maxLen) :
    Calls Try.prog 46 #[.slice A xs.length capA, .slice B ys.length capB] w fun e w' => e = .returned (.bool (decide (xs = ys))) ∧ Below w.heap.size w w' := by
  unfold maxLen at m1 m2
  by_cases hl : xs.length = ys.length
  · go_enter Try.func46, Try.ntmps46
    go_wp2_with fail
    go_loopw [13] (fun i wr => ∃ k : Nat, k ≤ xs.length ∧ i = .int .i64 k ∧ (∀ j (h1 : j < xs.length) (h3 : j < ys.length), j < k → xs[j] = ys[j]) ∧ Below w.heap.size w wr) (fun i _ => xs.length - (intOf i).toNat)
    case atStart => exact ⟨0, by omega, rfl, fun j _ _ h => absurd h (by omega), Below.refl _ _⟩
    case round =>
      obtain ⟨k, hk, rfl, hn, hT⟩ := hrel
      have HT := Lib.hid hT
      have HN := Lib.hid hn
      clear hn
      by_cases hlt : k < xs.length
      · have hlt2 : k < ys.length := by omega
        obtain ⟨b, o, rfl, hb, c0, c1, c2⟩ := ty_at (hA.below hT) hlt
        obtain ⟨b2, o2, rfl, hb2, d0, d1, d2⟩ := ty_at (hB.below hT) hlt2
        have hi1 : (0 : Int) ≤ (k : Int) := by omega
        have hi2 : (k : Int) < (xs.length : Int) := by omega
        have hi3 : (k : Int) < (ys.length : Int) := by omega
        obtain ⟨x, hx⟩ : ∃ x, xs[k] = x := ⟨_, rfl⟩
        obtain ⟨y, hy⟩ : ∃ y, ys[k] = y := ⟨_, rfl⟩
        rw [hx] at c0 c1 c2
        rw [hy] at d0 d1 d2
        clear hT
        have heq := run_eq_ty x y
        by_cases he : x = y
        · rw [decide_eq_true he] at heq
          have HE := Lib.hid (fun j (h1 : j < xs.length) (h3 : j < ys.length) (h : j < k + 1) => (show xs[j] = ys[j] from if h2 : j < k then HN.out j h1 h3 h2 else (by obtain rfl : j = k := (by omega); exact (hx.trans (he.trans hy.symm)))))
          clear he hx hy
          go_wp2_with fail
          go_quiet (fail)
          go_wp2_with fail
          exact ⟨⟨k + 1, by omega, by go_num, HE.out, below_drewN HT.out _⟩, by simp [intOf]; omega⟩
        · rw [decide_eq_false he] at heq
          have HE := Lib.hid (show decide (xs = ys) = false from decide_eq_false (fun e => he (by subst e; exact hx.symm.trans hy)))
          clear he hx hy
          go_wp2_with fail
          go_quiet (fail)
          go_wp2_with fail
          go_ret
          exact ⟨ret_b HE.out.symm, below_drewN HT.out _⟩
      · obtain rfl : k = xs.length := by omega
        have HE := Lib.hid (show decide (xs = ys) = true from decide_eq_true (list_eq_at hl (fun j h1 h3 => HN.out j h1 h3 h1)))
        clear hT
        go_wp2_with fail
        go_ret
        exact ⟨ret_b HE.out.symm, HT.out⟩
  · have HE := Lib.hid (show decide (xs = ys) = false from decide_eq_false (fun e => hl (by rw [e])))
    have hl' : ((xs.length : Int) != (ys.length : Int)) = true := by rw [bne_iff_ne]; omega
    clear hl
    go_enter Try.func46, Try.ntmps46
    go_wp2_with fail
    go_ret
    exact ⟨ret_b HE.out.symm, Below.refl _ _⟩
set_option maxRecDepth 100000 in
set_option maxHeartbeats 2000000 in
theorem s_EqualCh (A B : Option Addr) (capA capB : Nat) (xs ys : List Ch) (w : World) (hA : SlAt w w.heap.size 2 A (xs.map chCells)) (hB : SlAt w w.heap.size 2 B (ys.map chCells)) (h1 : xs.length ≤ capA) (m1 : capA ≤ maxLen) (h2 : ys.length ≤ capB) (m2 : capB ≤ maxLen) :
    Calls Try.prog 47 #[.slice A xs.length capA, .slice B ys.length capB] w fun e w' => e = .returned (.bool (decide (xs = ys))) ∧ Below w.heap.size w w' := by
  unfold maxLen at m1 m2
  by_cases hl : xs.length = ys.length
  · go_enter Try.func47, Try.ntmps47
    go_wp2_with fail
    go_loopw [13] (fun i wr => ∃ k : Nat, k ≤ xs.length ∧ i = .int .i64 k ∧ (∀ j (h1 : j < xs.length) (h3 : j < ys.length), j < k → xs[j] = ys[j]) ∧ Below w.heap.size w wr) (fun i _ => xs.length - (intOf i).toNat)
    case atStart => exact ⟨0, by omega, rfl, fun j _ _ h => absurd h (by omega), Below.refl _ _⟩
    case round =>
      obtain ⟨k, hk, rfl, hn, hT⟩ := hrel
      have HT := Lib.hid hT
      have HN := Lib.hid hn
      clear hn
      by_cases hlt : k < xs.length
      · have hlt2 : k < ys.length := by omega
        obtain ⟨b, o, rfl, hb, c0, c1⟩ := ch_at (hA.below hT) hlt
        obtain ⟨b2, o2, rfl, hb2, d0, d1⟩ := ch_at (hB.below hT) hlt2
        have hi1 : (0 : Int) ≤ (k : Int) := by omega
        have hi2 : (k : Int) < (xs.length : Int) := by omega
        have hi3 : (k : Int) < (ys.length : Int) := by omega
        obtain ⟨x, hx⟩ : ∃ x, xs[k] = x := ⟨_, rfl⟩
        obtain ⟨y, hy⟩ : ∃ y, ys[k] = y := ⟨_, rfl⟩
        rw [hx] at c0 c1
        rw [hy] at d0 d1
        clear hT
        have heq := run_eq_ch x y
        by_cases he : x = y
        · rw [decide_eq_true he] at heq
          have HE := Lib.hid (fun j (h1 : j < xs.length) (h3 : j < ys.length) (h : j < k + 1) => (show xs[j] = ys[j] from if h2 : j < k then HN.out j h1 h3 h2 else (by obtain rfl : j = k := (by omega); exact (hx.trans (he.trans hy.symm)))))
          clear he hx hy
          go_wp2_with fail
          go_quiet (fail)
          go_wp2_with fail
          exact ⟨⟨k + 1, by omega, by go_num, HE.out, below_drewN HT.out _⟩, by simp [intOf]; omega⟩
        · rw [decide_eq_false he] at heq
          have HE := Lib.hid (show decide (xs = ys) = false from decide_eq_false (fun e => he (by subst e; exact hx.symm.trans hy)))
          clear he hx hy
          go_wp2_with fail
          go_quiet (fail)
          go_wp2_with fail
          go_ret
          exact ⟨ret_b HE.out.symm, below_drewN HT.out _⟩
      · obtain rfl : k = xs.length := by omega
        have HE := Lib.hid (show decide (xs = ys) = true from decide_eq_true (list_eq_at hl (fun j h1 h3 => HN.out j h1 h3 h1)))
        clear hT
        go_wp2_with fail
        go_ret
        exact ⟨ret_b HE.out.symm, HT.out⟩
  · have HE := Lib.hid (show decide (xs = ys) = false from decide_eq_false (fun e => hl (by rw [e])))
    have hl' : ((xs.length : Int) != (ys.length : Int)) = true := by rw [bne_iff_ne]; omega
    clear hl
    go_enter Try.func47, Try.ntmps47
    go_wp2_with fail
    go_ret
    exact ⟨ret_b HE.out.symm, Below.refl _ _⟩
end Go.Proofs.Ytgnodiegippkeaa
