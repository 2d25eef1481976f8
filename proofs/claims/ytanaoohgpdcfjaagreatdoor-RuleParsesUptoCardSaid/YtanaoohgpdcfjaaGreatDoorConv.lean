/- A string turned into bytes: what the new row holds. -/
import Derived.Test.YtanaoohgpdcfjaaGreatDoorBase
import Derived.Lib.ConvBytes
namespace Go.Proofs.YtanaoohgpdcfjaaGreatDoor
open Go.RowKit
set_option linter.unusedVariables false
theorem conv_facts (w : World) (s : ByteArray) : ∃ (W1 : World) (cap : Nat),
    (Go.convert 9 183 (.string s)).run Tryz.prog w = .ok (.slice (some ⟨w.heap.size, 0, none⟩) s.size cap) W1 ∧
    (∀ j, j < s.size → W1.cell? ⟨w.heap.size, j, none⟩ = some (.int .u8 ((s.data.toList.getD j 0).toNat : Int))) ∧ Below w.heap.size w W1 ∧ W1.heap.size = w.heap.size + 1 := by
  refine ⟨_, _, Lib.run_convert_string_bytes w _ _ 5 s Tryz.underlying9 Tryz.underlying183 Tryz.underlying5, fun j hj => Lib.bytesWorld_cell w _ s j hj, ?_, Lib.bytesWorld_size w _ s⟩
  refine ⟨?_, ?_, ?_, by rw [Lib.bytesWorld_size]; omega, fun k hk => Lib.bytesWorld_at_old w _ s k hk⟩
  all_goals rfl
end Go.Proofs.YtanaoohgpdcfjaaGreatDoor
