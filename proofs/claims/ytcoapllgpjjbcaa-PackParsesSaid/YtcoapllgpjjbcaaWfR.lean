/- Walk of the reference's Find. -/
import Derived.Test.YtcoapllgpjjbcaaSrt
import Derived.Test.YtcoapllgpjjbcaaWallA
import Derived.Test.YtcoapllgpjjbcaaKeep2
namespace Go.Proofs.Ytcoapllgpjjbcaa
open Go.RowKit
set_option linter.unusedVariables false
attribute [local go_sem ↓] Go.wp_at_zero Go.wp_at_succ
def frd (ts : List Ty) (first : Int) (cs : List Ch) (l : Int) (k : Nat) : List Int := (ts.take k).filterMap fun x => if offT ts first cs (l - x.1) = x.1 then some (l - x.1) else none
theorem frd_hit {ts : List Ty} {first : Int} {cs : List Ch} {l : Int} {k : Nat} (h : k < ts.length) (he : offT ts first cs (l - ts[k].1) = ts[k].1) : frd ts first cs l (k + 1) = frd ts first cs l k ++ [l - ts[k].1] := by
  unfold frd; rw [List.take_succ_eq_append_getElem h, List.filterMap_append]; simp [he]
theorem frd_miss {ts : List Ty} {first : Int} {cs : List Ch} {l : Int} {k : Nat} (h : k < ts.length) (he : ¬ offT ts first cs (l - ts[k].1) = ts[k].1) : frd ts first cs l (k + 1) = frd ts first cs l k := by
  unfold frd; rw [List.take_succ_eq_append_getElem h, List.filterMap_append]; simp [he]
theorem frd_length (ts : List Ty) (first : Int) (cs : List Ch) (l : Int) (k : Nat) : (frd ts first cs l k).length ≤ k := by
  unfold frd; refine Nat.le_trans (List.length_filterMap_le _ _) ?_; rw [List.length_take]; omega
theorem frd_all (ts : List Ty) (first : Int) (cs : List Ch) (l : Int) : frd ts first cs l ts.length = findR ts first cs l := by
  unfold frd findR; rw [List.take_length]
theorem findR_length (ts : List Ty) (first : Int) (cs : List Ch) (l : Int) : (findR ts first cs l).length ≤ ts.length := List.length_filterMap_le _ _
theorem Bx.low {g B : Nat} {W W2 : World} {cs : Array Value} (h : Bx g W cs) (hb : Below B W W2) (hg : g < B) : Bx g W2 cs :=
  ⟨fun i => (hb.cell (p := ⟨g, i, none⟩) hg).trans (h.1 i), fun i => (hb.frozen (p := ⟨g, i, none⟩) hg).trans (h.2.1 i), Nat.lt_of_lt_of_le h.2.2 hb.size⟩
/-- a slice of new numbers as a result -/
def IntsPost (L : List Int) (w : World) (e : Ending) (w' : World) : Prop := ∃ v, e = .returned v ∧ w'.ownsRow w.heap.size 3 1 v L.length (L.map (Value.int .i64)) ∧ Below w.heap.size w w'
end Go.Proofs.Ytcoapllgpjjbcaa
