/- Walks of clock.Floor and of the reference's Rest, by days. -/
import Derived.Test.YtgnodiegippkeaaCivR
namespace Go.Proofs.Ytgnodiegippkeaa
open Go.RowKit
set_option linter.unusedVariables false
set_option maxHeartbeats 1000000 in
theorem fl_Floor (t : Int) (h1 : -9223372036854775808 ≤ t) (h2 : t ≤ 9223372036854775807) (w : World) :
    Calls Try.prog 52 #[.int .i64 t, .int .i64 86400] w fun e w' => e = .returned (.tuple #[.int .i64 (t / 86400), .int .i64 (t % 86400)]) ∧ Below w.heap.size w w' := by
  have hB : Below w.heap.size w w := Below.refl _ _
  obtain ⟨q0, t1, t2, t3, t4, t5⟩ := tmod_fact' t 86400 (by omega)
  obtain ⟨r, hr⟩ : ∃ r, t.tmod 86400 = r := ⟨_, rfl⟩
  obtain ⟨q, hq⟩ : ∃ q, t.tdiv 86400 = q := ⟨_, rfl⟩
  have t6 := Int.mul_tdiv_add_tmod t 86400
  rw [hr] at t1 t2 t3 t4 t5 t6
  rw [hq] at t6
  have hq1 : -200000000000000 ≤ q ∧ q ≤ 200000000000000 := by omega
  obtain ⟨hq1, hq2⟩ := hq1
  by_cases hc : r < 0
  · have HV : Hid (t / 86400 = q - 1 ∧ t % 86400 = r + 86400) := Lib.hid (by omega)
    rw [HV.out.1, HV.out.2]
    clear HV t1 t4 t5 t6
    go_enter Try.func52, Try.ntmps52
    go_wp2_with fail
    go_quiet (fail)
    go_wp2_with fail
    go_ret2
    exact ⟨rfl, below_drewN hB _⟩
  · have HV : Hid (t / 86400 = q ∧ t % 86400 = r) := Lib.hid (by omega)
    rw [HV.out.1, HV.out.2]
    clear HV t1 t4 t5 t6
    go_enter Try.func52, Try.ntmps52
    go_wp2_with fail
    go_quiet (fail)
    go_wp2_with fail
    go_ret2
    exact ⟨rfl, below_drewN hB _⟩
set_option maxHeartbeats 1000000 in
theorem fl_Rest (n : Int) (h1 : -9223372036854775808 ≤ n) (h2 : n ≤ 9223372036854775807) (w : World) :
    Calls Try.prog 53 #[.int .i64 n, .int .i64 86400] w fun e w' => e = .returned (.int .i64 (n % 86400)) ∧ w = w' := by
  obtain ⟨q, t1, t2, t3, t4, t5⟩ := tmod_fact' n 86400 (by omega)
  obtain ⟨t, ht⟩ : ∃ t, n.tmod 86400 = t := ⟨_, rfl⟩
  rw [ht] at t1 t2 t3 t4 t5
  by_cases hc : t < 0
  · have HV : Hid (n % 86400 = t + 86400) := Lib.hid (by omega)
    rw [HV.out]
    have hn : n < 0 := by by_cases hx : n < 0; exact hx; have := t4 (by omega); omega
    clear HV t1 t4 t5
    go_enter Try.func53, Try.ntmps53
    go_wp2
    go_ret
    exact ⟨rfl, rfl⟩
  · have HV : Hid (n % 86400 = t) := Lib.hid (by omega)
    by_cases hn : 0 ≤ n
    · have e2 : n % 86400 = t := HV.out
      clear HV t1 t4 t5 ht
      go_enter Try.func53, Try.ntmps53
      go_wp2
      go_ret
      exact ⟨rfl, rfl⟩
    · rw [HV.out]
      clear HV t1 t4 t5
      go_enter Try.func53, Try.ntmps53
      go_wp2
      go_ret
      exact ⟨rfl, rfl⟩
end Go.Proofs.Ytgnodiegippkeaa
