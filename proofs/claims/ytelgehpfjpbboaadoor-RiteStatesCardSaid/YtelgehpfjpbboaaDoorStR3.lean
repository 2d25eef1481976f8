/- Walk of the reference's Stamp. -/
import Derived.Test.YtelgehpfjpbboaaDoorStR1
import Derived.Test.YtelgehpfjpbboaaDoorStR2
import Derived.Test.YtelgehpfjpbboaaDoorSpR
import Derived.Test.YtelgehpfjpbboaaDoorCivR
namespace Go.Proofs.YtelgehpfjpbboaaDoor
open Go.RowKit
set_option linter.unusedVariables false
theorem r_Stamp (t : Int) (h1 : -9223372036854775808 ≤ t) (h2 : t ≤ 9223372036854775807) (w : World) :
    Calls Tryd.prog 14 #[.int .i64 t] w fun e w' => e = .returned (.tuple #[.string (stV t), .int .i64 (stE t)]) ∧ Below w.heap.size w w' := by
  cases h : dateOk (t / 86400) with
  | false => rw [(st_no h).1, (st_no h).2]; exact r_Stamp_no t h1 h2 h w
  | true => rw [(st_ok h).1, (st_ok h).2]; exact r_Stamp_ok t h w
end Go.Proofs.YtelgehpfjpbboaaDoor
