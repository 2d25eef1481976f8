/- Walk of the reference's Copy of changes. -/
import Derived.Test.YtbnajjfkkgmflaaNsD
import Derived.Test.YtbnajjfkkgmflaaNmE
namespace Go.Proofs.Ytbnajjfkkgmflaa
open Go.RowKit
set_option linter.unusedVariables false
attribute [local go_sem ↓] Go.wp_at_zero Go.wp_at_succ
theorem ch_one {cs : List Ch} : ∀ u ∈ (cs.map chCells).flatten, u.oneCell' = true := by
  intro u hu
  obtain ⟨l, hl, hu⟩ := List.mem_flatten.1 hu
  obtain ⟨c, _, rfl⟩ := List.mem_map.1 hl
  simp [chCells] at hu
  rcases hu with rfl | rfl <;> rfl
theorem ch_flat {cs : List Ch} : (cs.map chCells).flatten.length = cs.length * 2 := by
  rw [flat_len (size := 2) _ (by intro xs hx; obtain ⟨c, _, rfl⟩ := List.mem_map.1 hx; rfl), List.length_map]
theorem ch_src {w : World} {B : Nat} {A : Option Addr} {cs : List Ch} (h : SlAt w B 2 A (cs.map chCells)) : 0 < cs.length → ∃ ad, A = some ad ∧ ∀ j u, (cs.map chCells).flatten[j]? = some u → w.cell? (ad.add j) = some u :=
  fun hn => sl_flat h (by intro xs hx; obtain ⟨c, _, rfl⟩ := List.mem_map.1 hx; rfl) (by omega) (by simpa using hn)
set_option maxRecDepth 100000 in
theorem r_CopyCh (C : Option Addr) (cap : Nat) (cs : List Ch) (w : World) (hC : SlAt w w.heap.size 2 C (cs.map chCells)) (h1 : cs.length ≤ 1000) :
    Calls Try.prog 17 #[.slice C cs.length cap] w fun e w' => ∃ v, e = .returned v ∧ w'.ownsRow w.heap.size 42 2 v cs.length (cs.map chCells).flatten ∧ w.grownBy w' none := by
  obtain ⟨i0, hi0, hz0, hz1, hz2⟩ := info_parts info_Change
  go_enter Try.func17, Try.ntmps17
  go_wp2_with (at_builtin; refine wpList_append_all rfl _ _ _ rfl w.heap.size 42 i0 _ 2 16 Try.underlying23 hi0 hz0 hz1 hz2 rfl (by omega) (.slice none 0 0) 0 [] rfl (World.ownsRow_nil _ _ _ _) C cs.length cap _ rfl ch_flat (ch_src hC) ch_one (by unfold maxLen; omega) (by omega) (Nat.le_refl _) ?_; intro v' w6 hown hgrow)
  go_wp2_with fail
  rw [Nat.zero_add, List.nil_append] at hown
  go_ret
  exact ⟨v', rfl, hown, hgrow⟩
end Go.Proofs.Ytbnajjfkkgmflaa
