/- Walk of the reference's Stamp. -/
import Derived.Test.YtelgehpfjpbboaaDoorStP
import Derived.Test.YtelgehpfjpbboaaDoorSpR
import Derived.Test.YtelgehpfjpbboaaDoorCivR
namespace Go.Proofs.YtelgehpfjpbboaaDoor
open Go.RowKit
set_option linter.unusedVariables false
set_option maxHeartbeats 1000000 in
theorem r_Rest2 (n : Int) (h1 : -9223372036854775808 ≤ n) (h2 : n ≤ 9223372036854775807) (w : World) :
    Calls Tryd.prog 33 #[.int .i64 n, .int .i64 86400] w fun e w' => e = .returned (.int .i64 (n % 86400)) ∧ w = w' := by
  obtain ⟨q, t1, t2, t3, t4, t5⟩ := tmod_fact' n 86400 (by omega)
  obtain ⟨t, ht⟩ : ∃ t, n.tmod 86400 = t := ⟨_, rfl⟩
  rw [ht] at t1 t2 t3 t4 t5
  by_cases hc : t < 0
  · have HV : Hid (n % 86400 = t + 86400) := Lib.hid (by omega)
    rw [HV.out]
    have hn : n < 0 := by by_cases hx : n < 0; exact hx; have := t4 (by omega); omega
    clear HV t1 t4 t5
    go_enter Tryd.func33, Tryd.ntmps33
    go_wp2
    go_ret
    exact ⟨rfl, rfl⟩
  · have HV : Hid (n % 86400 = t) := Lib.hid (by omega)
    by_cases hn : 0 ≤ n
    · have e2 : n % 86400 = t := HV.out
      clear HV t1 t4 t5 ht
      go_enter Tryd.func33, Tryd.ntmps33
      go_wp2
      go_ret
      exact ⟨rfl, rfl⟩
    · rw [HV.out]
      clear HV t1 t4 t5
      go_enter Tryd.func33, Tryd.ntmps33
      go_wp2
      go_ret
      exact ⟨rfl, rfl⟩
set_option maxRecDepth 100000 in
set_option maxHeartbeats 1000000 in
theorem r_fixed4 (n : Nat) (h : 1000 ≤ n) (h2 : n < 10000) (w : World) :
    Calls Tryd.prog 27 #[.int .i64 n, .int .i64 4] w fun e w' => e = .returned (.string ⟨(Lib.decDigits n).toArray⟩) ∧ Below w.heap.size w w' := by
  have hl := dec_len4 h h2
  have HD := Lib.hid (fun w => r_Digits n (by omega) w)
  clear h h2
  go_enter Tryd.func27, Tryd.ntmps27
  go_wp2_with fail
  refine (HD.out _).mono ?_
  rintro e w1 ⟨rfl, hb⟩
  go_wp2_with fail
  go_loop [5] (fun s => s = .string ⟨(Lib.decDigits n).toArray⟩) (fun s => 0)
  case atStart => exact rfl
  case round =>
    obtain rfl := hrel
    go_wp2_with fail
    go_ret
    exact ⟨rfl, hb⟩
end Go.Proofs.YtelgehpfjpbboaaDoor
