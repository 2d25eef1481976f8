/- Walks of wall.check and wall.Local, and of the law's timed. -/
import Derived.Test.YtcoapllgpjjbcaaTabOfR
import Derived.Test.YtcoapllgpjjbcaaTabR
namespace Go.Proofs.Ytcoapllgpjjbcaa
open Go.RowKit
set_option linter.unusedVariables false
theorem field_off (o : Int) (b : Bool) (s : ByteArray) (w : World) : (Instr.field 50 (.agg #[.int .i64 o, .bool b, .string s]) 0).run Try.prog w = .ok (.int .i64 o) w := by kernel_rfl
/-- the errors of a table and a time -/
def timedE (ts : List Ty) (first : Int) (cs : List Ch) (time : Int) : Int := if tabE ts first cs = 0 then if -1099511627776 ≤ time ∧ time ≤ 1099511627776 then 0 else 1 else tabE ts first cs
theorem timedE_bad {ts : List Ty} {first : Int} {cs : List Ch} {time : Int} (h : ¬ tabE ts first cs = 0) : timedE ts first cs time = tabE ts first cs := by rw [timedE, if_neg h]
theorem timedE_out {ts : List Ty} {first : Int} {cs : List Ch} {time : Int} (h : tabE ts first cs = 0) (h2 : ¬ (-1099511627776 ≤ time ∧ time ≤ 1099511627776)) : timedE ts first cs time = 1 := by rw [timedE, if_pos h, if_neg h2]
theorem timedE_ok {ts : List Ty} {first : Int} {cs : List Ch} {time : Int} (h : tabE ts first cs = 0) (h2 : -1099511627776 ≤ time ∧ time ≤ 1099511627776) : timedE ts first cs time = 0 := by rw [timedE, if_pos h, if_pos h2]
/-- what Local answers -/
def localV (ts : List Ty) (first : Int) (cs : List Ch) (time : Int) : Int := if timedE ts first cs time = 0 then time + (tabOf ts first cs time).1 else 0
theorem localV_ok {ts : List Ty} {first : Int} {cs : List Ch} {time : Int} (h : timedE ts first cs time = 0) : localV ts first cs time = time + (tabOf ts first cs time).1 := by rw [localV, if_pos h]
theorem localV_no {ts : List Ty} {first : Int} {cs : List Ch} {time : Int} (h : ¬ timedE ts first cs time = 0) : localV ts first cs time = 0 := by rw [localV, if_neg h]
theorem timed_parts {ts : List Ty} {first : Int} {cs : List Ch} {time : Int} (h0 : timedE ts first cs time = 0) : tabE ts first cs = 0 ∧ (-1099511627776 ≤ time ∧ time ≤ 1099511627776) := by
  by_cases h1 : tabE ts first cs = 0
  · by_cases h2 : -1099511627776 ≤ time ∧ time ≤ 1099511627776
    · exact ⟨h1, h2⟩
    · rw [timedE_out h1 h2] at h0; omega
  · rw [timedE_bad h1] at h0; exact absurd h0 h1
theorem tabOf_mem {ts : List Ty} {first : Int} {cs : List Ch} (time : Int) (hK : TabOk ts first cs) : tabOf ts first cs time ∈ ts := by
  have hr := tyIx_range time hK
  have hn : (tyIx first cs time).toNat < ts.length := by omega
  have e : tabOf ts first cs time = ts[(tyIx first cs time).toNat] := by rw [tabOf]; simp [List.getD, hn]
  rw [e]; exact List.getElem_mem hn
end Go.Proofs.Ytcoapllgpjjbcaa
