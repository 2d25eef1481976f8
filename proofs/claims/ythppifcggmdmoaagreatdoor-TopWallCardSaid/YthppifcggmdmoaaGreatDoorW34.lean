/- Part 34 of the proof of TopWall: no condition; what its declarations say stands at each. -/
import Derived.Test.YthppifcggmdmoaaGreatDoorW32
import Derived.Test.YthppifcggmdmoaaGreatDoorW33
namespace Go.Proofs.YthppifcggmdmoaaGreatDoor
open Go.RowKit
set_option linter.unusedVariables false
attribute [local go_sem ↓] Go.wp_at_zero Go.wp_at_succ
theorem rub_of_book {rs : List RuT} {zs : List ZoT} {ls : List LkT} (h : bookE rs zs ls = 0) : ∀ r ∈ rs, RuB r := by
 intro r hr
 obtain ⟨k, hk, rfl⟩ := List.getElem_of_mem hr
 have := (bookE_inv h).2.1 k hk
 rw [get_bang hk] at this
 exact RuB.of this
def offOk (off : Int) : Prop := -64800 ≤ off ∧ off ≤ 64800
instance (off : Int) : Decidable (offOk off) := inferInstanceAs (Decidable (_ ∧ _))
end Go.Proofs.YthppifcggmdmoaaGreatDoor

