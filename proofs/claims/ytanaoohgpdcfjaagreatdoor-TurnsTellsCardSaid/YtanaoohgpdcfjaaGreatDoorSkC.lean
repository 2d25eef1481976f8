/- slices.SortStableFunc at the turns' nominals: the comparison; swaps of neighbours. -/
import Derived.Test.YtanaoohgpdcfjaaGreatDoorSkB
import Derived.Test.YtanaoohgpdcfjaaGreatDoorSsP
import Derived.Test.YtanaoohgpdcfjaaGreatDoorShelf
import Derived.BigQuiet
import Derived.Shelf.SlSortCmp.QuietGrown
namespace Go.Proofs.YtanaoohgpdcfjaaGreatDoor
open Go.RowKit Go.Sort
set_option linter.unusedVariables false
theorem cmpI_neg (x y : Int) : decide (Lib.compareInt x y < 0) = decide (x < y) := by
  unfold Lib.compareInt
  repeat' split
  all_goals first | (simp; omega) | simp_all
theorem cmpI_lt {x y : Int} (h : x < y) : Lib.compareInt x y < 0 := by have := cmpI_neg x y; simpa [h] using this
theorem cmpI_ge {x y : Int} (h : ¬ x < y) : ¬ Lib.compareInt x y < 0 := by have := cmpI_neg x y; simpa [h] using this
set_option maxRecDepth 100000 in
set_option maxHeartbeats 4000000 in
theorem nm_cmp (x1 y1 : Int) (x2 y2 : Option Addr) (w : World) :
    Calls Tryz.prog 88 #[.agg #[.int .i64 x1, .pointer x2], .agg #[.int .i64 y1, .pointer y2]] w fun e w' => e = .returned (.int .i64 (Lib.compareInt x1 y1)) ∧ ∃ q os', w' = grow (w.drewN q) os' := by
  go_enter Tryz.func88, Tryz.ntmps88
  go_wp2_with fail
  go_at_call 89
  refine (Tryz.cmp_Compare_int x1 y1 _).mono ?_
  rintro e w1 ⟨rfl, rfl⟩
  go_wp2_with fail
  refine bodyPost_ret (by simp only [results, Tryz.results88]; simp [go_sem]) rfl ⟨rfl, 0, _, by rw [alloc_eq_grow, alloc_eq_grow, grow_grow]; rfl⟩
theorem NmAt.grow {w : World} {base G cap : Nat} {xs : List Nm} (h : NmAt w base G cap xs) (n : Nat) (os : Array Obj) : NmAt (grow (w.drewN n) os) base G cap xs := by
  have hk : w.grownBy (Go.Sort.grow (w.drewN n) os) none := ⟨rfl, rfl, rfl, by rw [size_grow]; exact Nat.le_add_right _ _, fun k hk _ => heap_grow_old _ _ hk⟩
  exact World.ownsRow.kept h hk (Or.inr (by simp [Value.ownBlock]))
theorem grown_grow {w w1 : World} {r : Option Nat} (h : w.grownBy w1 r) (n : Nat) (os : Array Obj) : w.grownBy (Go.Sort.grow (w1.drewN n) os) r :=
  ⟨h.os, h.tape, h.output, Nat.le_trans h.size (by rw [size_grow]; exact Nat.le_add_right _ _), fun k hk hne => (heap_grow_old _ _ (Nat.lt_of_lt_of_le hk h.size)).trans (h.block k hk hne)⟩
theorem grown_drew {w w1 : World} {r : Option Nat} (h : w.grownBy w1 r) : w.grownBy w1.drew r := ⟨h.os, h.tape, h.output, h.size, h.block⟩
/-- a cell pair, in every world of the comparison's -/
theorem NmAt.seen {w : World} {base G cap : Nat} {xs : List Nm} (h : NmAt w base G cap xs) {k : Nat} {x : Nm} (hg : xs[k]? = some x) : (∀ n os, (Go.Sort.grow (w.drewN n) os).cell? ⟨G, k * 2, none⟩ = some (.int .i64 x.1)) ∧ (∀ n os, (Go.Sort.grow (w.drewN n) os).cell? ⟨G, k * 2 + 1, none⟩ = some (.pointer x.2)) :=
  ⟨fun n os => ((h.grow n os).cell' hg).1, fun n os => ((h.grow n os).cell' hg).2⟩
/-- two elements change places -/
theorem NmAt.swap {w : World} {base G cap : Nat} {xs : List Nm} (h : NmAt w base G cap xs) {i j : Nat} {x y : Nm} (hi : i < xs.length) (hj : j < xs.length) :
    NmAt ((((w.setCell ⟨G, i * 2, none⟩ (.int .i64 y.1)).setCell ⟨G, i * 2 + 1, none⟩ (.pointer y.2)).setCell ⟨G, j * 2, none⟩ (.int .i64 x.1)).setCell ⟨G, j * 2 + 1, none⟩ (.pointer x.2)) base G cap ((xs.set i y).set j x) :=
  (h.put hi y).put (by rw [List.length_set]; exact hj) x
theorem grown_swap {w : World} {G : Nat} (i1 i2 i3 i4 : Nat) (v1 v2 v3 v4 : Value) : w.grownBy ((((w.setCell ⟨G, i1, none⟩ v1).setCell ⟨G, i2, none⟩ v2).setCell ⟨G, i3, none⟩ v3).setCell ⟨G, i4, none⟩ v4) (some G) := by
  have hj : ∀ (W : World) (a : Addr) (v : Value), a.block = G → w.grownBy W (some G) → w.grownBy (W.setCell a v) (some G) := fun W a v ha h => h.andThen (grown_set2 W a v) (fun j hj => Or.inr (by rw [← hj, ha]))
  exact hj _ _ _ rfl (hj _ _ _ rfl (hj _ _ _ rfl (hj _ _ _ rfl (grown_refl w _))))
theorem sw2_up (X Y : List Nm) (p q : Nm) {n : Nat} (h : n = X.length) : ((X ++ p :: q :: Y).set n q).set (n + 1) p = X ++ q :: p :: Y := by
  rw [set_at X (q :: Y) p q h]
  have := set_at (X ++ [q]) Y q p (n := n + 1) (by simp [h])
  simpa using this
theorem sw2_dn (X Y : List Nm) (p q : Nm) {n : Nat} (h : n = X.length) : ((X ++ p :: q :: Y).set (n + 1) p).set n q = X ++ q :: p :: Y := by
  rw [List.set_comm _ _ (by omega)]
  exact sw2_up X Y p q h
/-- sorted by time -/
def NmS (l : List Nm) : Prop := l.Pairwise (fun p q => p.1 ≤ q.1)
theorem nms_take {l : List Nm} (h : NmS l) {k : Nat} (hk : k < l.length) {x : Int} (hx : l[k].1 < x) : ∀ p ∈ l.take (k + 1), p.1 < x := by
  intro p hp
  obtain ⟨i, hi, rfl⟩ := List.getElem_of_mem hp
  rw [List.length_take] at hi
  rw [List.getElem_take]
  by_cases he : i = k
  · subst he; exact hx
  · have := List.pairwise_iff_getElem.1 h i k (by omega) hk (by omega)
    omega
theorem nms_takele {l : List Nm} (h : NmS l) {k : Nat} (hk : k < l.length) {x : Int} (hx : l[k].1 ≤ x) : ∀ p ∈ l.take (k + 1), p.1 ≤ x := by
  intro p hp
  obtain ⟨i, hi, rfl⟩ := List.getElem_of_mem hp
  rw [List.length_take] at hi
  rw [List.getElem_take]
  by_cases he : i = k
  · subst he; exact hx
  · have := List.pairwise_iff_getElem.1 h i k (by omega) hk (by omega)
    omega
theorem nms_drop {l : List Nm} (h : NmS l) {k : Nat} (hk : k < l.length) {x : Int} (hx : x ≤ l[k].1) : ∀ p ∈ l.drop k, x ≤ p.1 := by
  intro p hp
  obtain ⟨i, hi, rfl⟩ := List.getElem_of_mem hp
  rw [List.length_drop] at hi
  rw [List.getElem_drop]
  by_cases he : i = 0
  · subst he; simpa using hx
  · have := List.pairwise_iff_getElem.1 h k (k + i) hk (by omega) (by omega)
    omega
theorem nms_droplt {l : List Nm} (h : NmS l) {k : Nat} (hk : k < l.length) {x : Int} (hx : x < l[k].1) : ∀ p ∈ l.drop k, x < p.1 := by
  intro p hp
  have := nms_drop h hk (x := x + 1) (by omega) p hp
  omega
end Go.Proofs.YtanaoohgpdcfjaaGreatDoor
