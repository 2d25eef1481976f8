/- Walk of the reference's Stamp. -/
import Derived.Test.YtgnodiegippkeaaDoorStP
import Derived.Test.YtgnodiegippkeaaDoorSpR
import Derived.Test.YtgnodiegippkeaaDoorCivR
namespace Go.Proofs.YtgnodiegippkeaaDoor
open Go.RowKit
set_option linter.unusedVariables false
set_option maxHeartbeats 1000000 in
theorem r_Rest2 (n : Int) (h1 : -9223372036854775808 ≤ n) (h2 : n ≤ 9223372036854775807) (w : World) :
    Calls Tryd.prog 35 #[.int .i64 n, .int .i64 86400] w fun e w' => e = .returned (.int .i64 (n % 86400)) ∧ w = w' := by
  obtain ⟨q, t1, t2, t3, t4, t5⟩ := tmod_fact' n 86400 (by omega)
  obtain ⟨t, ht⟩ : ∃ t, n.tmod 86400 = t := ⟨_, rfl⟩
  rw [ht] at t1 t2 t3 t4 t5
  by_cases hc : t < 0
  · have HV : Hid (n % 86400 = t + 86400) := Lib.hid (by omega)
    rw [HV.out]
    have hn : n < 0 := by by_cases hx : n < 0; exact hx; have := t4 (by omega); omega
    clear HV t1 t4 t5
    go_enter Tryd.func35, Tryd.ntmps35
    go_wp2
    go_ret
    exact ⟨rfl, rfl⟩
  · have HV : Hid (n % 86400 = t) := Lib.hid (by omega)
    by_cases hn : 0 ≤ n
    · have e2 : n % 86400 = t := HV.out
      clear HV t1 t4 t5 ht
      go_enter Tryd.func35, Tryd.ntmps35
      go_wp2
      go_ret
      exact ⟨rfl, rfl⟩
    · rw [HV.out]
      clear HV t1 t4 t5
      go_enter Tryd.func35, Tryd.ntmps35
      go_wp2
      go_ret
      exact ⟨rfl, rfl⟩
end Go.Proofs.YtgnodiegippkeaaDoor
