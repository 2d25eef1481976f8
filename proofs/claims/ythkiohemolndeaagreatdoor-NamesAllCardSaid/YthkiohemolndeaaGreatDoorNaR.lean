/- Walk of the closure that puts a name in its place (the reference's Names). -/
import Derived.Test.YthkiohemolndeaaGreatDoorNaP
import Derived.Test.YthkiohemolndeaaGreatDoorBase
import Derived.Deep.RegionLawGrows
import Derived.Deep.AppendLies
import Derived.Deep.Onto
import Derived.Sort.Walk0
import Derived.Maps.RangeWalk
namespace Go.Proofs.YthkiohemolndeaaGreatDoor
open Go.RowKit
set_option linter.unusedVariables false
abbrev enS (x : Bs) : Value := .string ⟨x.toArray⟩
theorem info_Str0 : (Tryz.prog.info? 9).map (fun i => (i.zero, i.size, i.bytes)) = some (some (.string ⟨#[]⟩), 1, 16) := by kernel_rfl
theorem grown_setN (w : World) (a : Addr) (v : Value) : w.grownBy (w.setCell a v) (some a.block) :=
  ⟨rfl, rfl, rfl, by simp, fun k _ hk => Below.heap_setCell _ _ _ _ (fun e => hk (by rw [e]))⟩
theorem grown_al (w : World) (o : Obj) (r : Option Nat) : w.grownBy (w.alloc o) r := ⟨rfl, rfl, rfl, by simp, fun k hk _ => Below.heap_alloc w o k hk⟩
theorem put_grown {w W w2 : World} {gO : Nat} {v : Value} (h0 : w.grownBy W (some gO)) (hg : W.grownBy w2 none) : w.grownBy (w2.setCell ⟨gO, 0, none⟩ v) (some gO) :=
  (h0.andThen hg (fun j hj => by cases hj)).andThen (grown_setN w2 ⟨gO, 0, none⟩ v) (fun j hj => Or.inr hj)
theorem put_grown2 {w W w1 w2 : World} {gO : Nat} {v : Value} (h0 : w.grownBy W (some gO)) (hg1 : W.grownBy w1 none) (hg2 : w1.grownBy w2 none) : w.grownBy (w2.setCell ⟨gO, 0, none⟩ v) (some gO) :=
  ((h0.andThen hg1 (fun j hj => by cases hj)).andThen hg2 (fun j hj => by cases hj)).andThen (grown_setN w2 ⟨gO, 0, none⟩ v) (fun j hj => Or.inr hj)
theorem own_al {w : World} {base G n cap : Nat} {xs : List Value} (hO : w.ownsRow base 9 1 (.slice (some ⟨G, 0, none⟩) n cap) n xs) (o : Obj) : ∀ j u, xs[j]? = some u → (w.alloc o).cell? ((⟨G, 0, none⟩ : Addr).add j) = some u :=
  (hO.alloc o).cells rfl
theorem own_from {w : World} {base G n cap k : Nat} {xs : List Value} (hO : w.ownsRow base 9 1 (.slice (some ⟨G, 0, none⟩) n cap) n xs) : ∀ j u, (xs.drop k)[j]? = some u → w.cell? ((⟨G, k, none⟩ : Addr).add j) = some u := by
  intro j u hu
  rw [List.getElem?_drop] at hu
  have h := hO.cells rfl (k + j) u hu
  have e : (⟨G, 0, none⟩ : Addr).add (k + j) = (⟨G, k, none⟩ : Addr).add j := by
    unfold Addr.add
    by_cases hj : j = 0
    · subst hj
      by_cases hk : k = 0
      · subst hk; rfl
      · rw [if_neg (by omega), if_pos rfl]; simp
    · rw [if_neg (by omega), if_neg hj]; simp
  rw [e] at h
  exact h
theorem own_heap {w w2 : World} {base G n cap : Nat} {xs : List Value} (hO : w.ownsRow base 9 1 (.slice (some ⟨G, 0, none⟩) n cap) n xs) (h : w2.heap[G]? = w.heap[G]?) : w2.ownsRow base 9 1 (.slice (some ⟨G, 0, none⟩) n cap) n xs :=
  ⟨hO.1, hO.2.imp id (fun ⟨g, c, cur, a1, a2, a3, a4⟩ => ⟨g, c, cur, a1, a2, by cases a1; exact h.trans a3, a4⟩)⟩
theorem own_take {w : World} {base G n cap k : Nat} {xs : List Value} (hO : w.ownsRow base 9 1 (.slice (some ⟨G, 0, none⟩) n cap) n xs) : ∀ j u, (xs.take k)[j]? = some u → w.cell? ((⟨G, 0, none⟩ : Addr).add j) = some u := by
  intro j u hu
  refine hO.cells rfl j u ?_
  rw [List.getElem?_take] at hu
  split at hu
  · exact hu
  · cases hu
theorem less_is {x : Bs} {y : ByteArray} {b : Bool} (h : decide (x < y.data.toList) = b) : Op.bytesLess x y.toList = b := by
  rw [bytesLess_eq, Lib.toList_data]
  exact h
theorem enS_one {l : List Bs} : ∀ u ∈ l.map enS, u.oneCell' = true := by intro u hu; obtain ⟨x, _, rfl⟩ := List.mem_map.1 hu; rfl
set_option maxRecDepth 100000 in
set_option maxHeartbeats 4000000 in
theorem r_put_nil (gO : Nat) (nm : ByteArray) (w : World) (l : List Bs) (hl : l = []) (hB : Blk w gO 27 #[.slice none 0 0]) :
    Calls Tryz.prog 27 #[.string nm, .pointer (some ⟨gO, 0, none⟩)] w fun e w' => ∃ g cap, e = .returned (.tuple #[]) ∧ Blk w' gO 27 #[.slice (some ⟨g, 0, none⟩) (putS nm.data.toList l).length cap] ∧ w'.ownsRow w.heap.size 9 1 (.slice (some ⟨g, 0, none⟩) (putS nm.data.toList l).length cap) (putS nm.data.toList l).length ((putS nm.data.toList l).map enS) ∧ w.grownBy w' (some gO) := by
  subst hl
  show Calls Tryz.prog 27 #[.string nm, .pointer (some ⟨gO, 0, none⟩)] w fun e w' => ∃ g cap, e = .returned (.tuple #[]) ∧ Blk w' gO 27 #[.slice (some ⟨g, 0, none⟩) 1 cap] ∧ w'.ownsRow w.heap.size 9 1 (.slice (some ⟨g, 0, none⟩) 1 cap) 1 [enS nm.data.toList] ∧ w.grownBy w' (some gO)
  rw [show enS nm.data.toList = .string nm by simp [enS]]
  obtain ⟨iS, hiS, hz0, hz1, hz2⟩ := info_parts info_Str0
  have f0 := hB.cell 0
  have z0 := hB.frz 0
  have fl := hB.lt
  simp at f0
  have HB := Lib.hid hB
  clear hB
  go_enter Tryz.func27, Tryz.ntmps27
  go_wp2_with fail
  go_loop [3] (fun i => i = .int .i64 0) (fun _ => 0)
  case atStart => rfl
  case round =>
    subst hrel
    go_wp2_with fail
    go_region_law (refine step_append_grows rfl (.tmp 21) (.tmp 27) 27 rfl 9 iS _ 1 16 Tryz.underlying27 hiS hz0 hz1 hz2 rfl (by omega) none 0 0 [] (by rfl) (fun _ => ⟨rfl, rfl⟩) rfl (fun b hb => by cases hb) ⟨w.heap.size, 0, none⟩ 1 1 [.string nm] (by rfl) rfl (World.news_of_block (cs := #[.string nm]) (t := 9) (fr := (0, 0)) (heap_alloc_new w _)) (by simp [Value.oneCell']) (by omega) (by unfold maxLen; omega) (by omega) ?_; intro v2 w2 hown2 hgrow2; obtain ⟨g2, cap2, rfl, hge2, hlt2⟩ := hown2.form (by omega); have hm6 := Blk.grown' hgrow2 (HB.out.alloc (.cells #[.string nm] 9)) (by simp); have y0 := hm6.cell 0; have y1 := hm6.frz 0; have y2 := hm6.lt; clear hm6)
    all_goals
      have hm6 := Blk.grown' hgrow2 (HB.out.alloc (.cells #[.string nm] 9)) (by simp)
      clear y0 y1
      go_wp2_with fail
      go_end0
      have hge3 : w.heap.size + 1 ≤ g2 := by simpa using hge2
      refine ⟨g2, cap2, rfl, hm6.set 0 _, ?_, by refine put_grown ?_ hgrow2; exact ⟨rfl, rfl, rfl, by simp, fun k hk _ => Below.heap_alloc w _ k hk⟩⟩
      exact (World.ownsRow.mono hown2 (by simp)).kept (grown_setN _ ⟨gO, 0, none⟩ _) (Or.inr (by simp [Value.ownBlock]; omega))
set_option maxRecDepth 100000 in
set_option maxHeartbeats 4000000 in
theorem r_put_some (gO G cap base : Nat) (l : List Bs) (nm : ByteArray) (w : World) (hl : l.length ≤ 100) (hB : Blk w gO 27 #[.slice (some ⟨G, 0, none⟩) l.length cap]) (hO : w.ownsRow base 9 1 (.slice (some ⟨G, 0, none⟩) l.length cap) l.length (l.map enS)) :
    Calls Tryz.prog 27 #[.string nm, .pointer (some ⟨gO, 0, none⟩)] w fun e w' => ∃ g cap, e = .returned (.tuple #[]) ∧ Blk w' gO 27 #[.slice (some ⟨g, 0, none⟩) (putS nm.data.toList l).length cap] ∧ w'.ownsRow w.heap.size 9 1 (.slice (some ⟨g, 0, none⟩) (putS nm.data.toList l).length cap) (putS nm.data.toList l).length ((putS nm.data.toList l).map enS) ∧ w.grownBy w' (some gO) := by
  obtain ⟨iS, hiS, hz0, hz1, hz2⟩ := info_parts info_Str0
  have f0 := hB.cell 0
  have z0 := hB.frz 0
  have fl := hB.lt
  simp at f0
  have HB := Lib.hid hB
  have HO := Lib.hid hO
  have hcap : l.length ≤ cap ∧ cap ≤ 9223372036854775807 := by
    rcases hO.2 with ⟨h, _⟩ | ⟨g, c, cur, e, _, _, h1, h2, _⟩
    · cases h
    · cases e; exact ⟨h1, h2⟩
  have hGl := (hO.lt G rfl).2
  have HC := Lib.hid (show ∀ j (h : j < l.length), w.cell? ⟨G, j, none⟩ = some (enS l[j]) from fun j h => by rw [hO.cellAt j (by omega)]; simp [h])
  clear hB hO
  go_enter Tryz.func27, Tryz.ntmps27
  go_wp2_with fail
  go_loop [3] (fun i => ∃ k : Nat, k ≤ l.length ∧ i = .int .i64 k ∧ Hid (∀ j, j < k → l.getD j [] < nm.data.toList)) (fun i => l.length - (intOf i).toNat)
  case atStart => exact ⟨0, by omega, rfl, Lib.hid (fun j hj => by omega)⟩
  case round =>
    obtain ⟨k, hk, rfl, HL⟩ := hrel
    have hi1 : (0 : Int) ≤ (k : Int) := by omega
    have hi2 : (k : Int) ≤ (l.length : Int) := by omega
    have hi3 : (l.length : Int) ≤ (cap : Int) := by omega
    have hi4 : (k : Int) ≤ (cap : Int) := by omega
    by_cases hlt : k < l.length
    · have c0 := HC.out k hlt
      have hg0 : l.getD k [] = l[k] := by simp [List.getD, hlt]
      by_cases hq : l[k] < nm.data.toList
      · have HL2 := Lib.hid (show ∀ j, j < k + 1 → l.getD j [] < nm.data.toList from fun j hj => by
          by_cases e : j = k
          · subst e; rw [hg0]; exact hq
          · exact HL.out j (by omega))
        have hb := less_is (b := true) (decide_eq_true hq)
        obtain ⟨x, hx⟩ : ∃ x, l[k] = x := ⟨_, rfl⟩
        rw [hx] at c0 hb
        clear hg0 hq hx
        go_wp2_with fail
        exact ⟨⟨k + 1, by omega, by go_num, HL2⟩, by simp only [intOf]; omega⟩
      · have hb := less_is (b := false) (decide_eq_false hq)
        have HP := Lib.hid (putS_at (x := nm.data.toList) (l := l) hk HL.out (Or.inr (by rw [hg0]; exact hq)))
        obtain ⟨x, hx⟩ : ∃ x, l[k] = x := ⟨_, rfl⟩
        rw [hx] at c0 hb
        clear hg0 hq hx
        have hck : ¬ cap = k := by omega
        go_wp2_with fail
        go_region_law (first | (refine step_append_grows rfl (.tmp 23) (.tmp 26) 27 rfl 9 iS _ 1 16 Tryz.underlying27 hiS hz0 hz1 hz2 rfl (by omega) (some ⟨w.heap.size, 0, none⟩) 1 1 [.string nm] (by rfl) (fun h => by cases h) rfl (fun b hb => by cases hb; exact World.news_of_block (cs := #[.string nm]) (t := 9) (fr := (0, 0)) (heap_alloc_new w _)) ⟨G, k, none⟩ (l.length - k) (cap - k) ((l.map enS).drop k) (by rfl) (by simp) (own_from (HO.out.alloc _)) (fun u hu => enS_one u (List.mem_of_mem_drop hu)) (by omega) (by unfold maxLen; omega) (by omega) ?_; intro v1 w1 hown1 hgrow1; obtain ⟨g1, cap1, rfl, hge1, hlt1⟩ := hown1.form (by omega); have hm5 := Blk.grown' hgrow1 (HB.out.alloc (.cells #[.string nm] 9)) (by simp); have x0 := hm5.cell 0; have xl := hm5.lt; clear hm5) | (refine step_append_grows rfl (.tmp 21) (.tmp 27) 27 rfl 9 iS _ 1 16 Tryz.underlying27 hiS hz0 hz1 hz2 rfl (by omega) (some ⟨G, 0, none⟩) k k ((l.map enS).take k) (by rfl) (fun h => by cases h) (by simp; omega) (fun b hb => by cases hb; exact own_take (own_heap HO.out ((hgrow1.block G (by simp; omega) (by simp)).trans (Below.heap_alloc w _ G hGl)))) ⟨g1, 0, none⟩ (1 + (l.length - k)) cap1 ([.string nm] ++ (l.map enS).drop k) (by rfl) (by simp; omega) (hown1.cells rfl) (fun u hu => by exact (List.mem_append.1 hu).elim (fun h => by obtain rfl := List.mem_singleton.1 h; rfl) (fun h => enS_one u (List.mem_of_mem_drop h))) (by omega) (by unfold maxLen; omega) (by omega) ?_; intro v2 w2 hown2 hgrow2; obtain ⟨g2, cap2, rfl, hge2, hlt2⟩ := hown2.form (by omega); have hm6 := Blk.grown' hgrow2 (Blk.grown' hgrow1 (HB.out.alloc (.cells #[.string nm] 9)) (by simp)) (by simp); have y0 := hm6.cell 0; have y1 := hm6.frz 0; have y2 := hm6.lt; clear hm6))
        all_goals
          have hm6 := Blk.grown' hgrow2 (Blk.grown' hgrow1 (HB.out.alloc (.cells #[.string nm] 9)) (by simp)) (by simp)
          clear y0 y1 x0 xl
          go_wp2_with fail
          go_end0
          have hge3 : w.heap.size + 1 ≤ g1 := by simpa using hge1
          have hz1' : w.heap.size + 1 ≤ w1.heap.size := by have := hgrow1.size; simp at this; omega
          have hge4 : w1.heap.size ≤ g2 := hge2
          have hnm : (putS nm.data.toList l).length = k + (1 + (l.length - k)) ∧ (putS nm.data.toList l).map enS = (l.map enS).take k ++ ([.string nm] ++ (l.map enS).drop k) := by rw [HP.out]; refine ⟨by simp; omega, by simp [enS, List.map_take, List.map_drop]⟩
          rw [hnm.1, hnm.2]
          refine ⟨g2, cap2, rfl, hm6.set 0 _, ?_, by refine put_grown2 ?_ hgrow1 hgrow2; exact ⟨rfl, rfl, rfl, by simp, fun k hk _ => Below.heap_alloc w _ k hk⟩⟩
          exact (World.ownsRow.mono hown2 (by omega)).kept (grown_setN _ ⟨gO, 0, none⟩ _) (Or.inr (by simp [Value.ownBlock]; omega))
    · obtain rfl : k = l.length := by omega
      have HP := Lib.hid (putS_at (x := nm.data.toList) (l := l) hk HL.out (Or.inl rfl))
      go_wp2_with fail
      by_cases hcl : cap = l.length
      · subst hcl
        go_region_law (refine step_append_grows rfl (.tmp 21) (.tmp 27) 27 rfl 9 iS _ 1 16 Tryz.underlying27 hiS hz0 hz1 hz2 rfl (by omega) (some ⟨G, 0, none⟩) l.length l.length (l.map enS) (by rfl) (fun h => by cases h) (by simp) (fun b hb => by cases hb; exact own_al HO.out _) ⟨w.heap.size, 0, none⟩ 1 1 [.string nm] (by rfl) rfl (World.news_of_block (cs := #[.string nm]) (t := 9) (fr := (0, 0)) (heap_alloc_new w _)) (by simp [Value.oneCell']) (by omega) (by unfold maxLen; omega) (by omega) ?_; intro v2 w2 hown2 hgrow2; obtain ⟨g2, cap2, rfl, hge2, hlt2⟩ := hown2.form (by omega); have hm6 := Blk.grown' hgrow2 (HB.out.alloc (.cells #[.string nm] 9)) (by simp); have y0 := hm6.cell 0; have y1 := hm6.frz 0; have y2 := hm6.lt; clear hm6)
        all_goals
          have hm6 := Blk.grown' hgrow2 (HB.out.alloc (.cells #[.string nm] 9)) (by simp)
          clear y0 y1
          go_wp2_with fail
          go_end0
          have hge3 : w.heap.size + 1 ≤ g2 := by simpa using hge2
          have hnm : (putS nm.data.toList l).length = l.length + 1 ∧ (putS nm.data.toList l).map enS = l.map enS ++ [.string nm] := by rw [HP.out]; simp [enS]
          rw [hnm.1, hnm.2]
          refine ⟨g2, cap2, rfl, hm6.set 0 _, ?_, by refine put_grown ?_ hgrow2; exact ⟨rfl, rfl, rfl, by simp, fun k hk _ => Below.heap_alloc w _ k hk⟩⟩
          exact (World.ownsRow.mono hown2 (by simp)).kept (grown_setN _ ⟨gO, 0, none⟩ _) (Or.inr (by simp [Value.ownBlock]; omega))
      · skip
        go_region_law (refine step_append_grows rfl (.tmp 21) (.tmp 27) 27 rfl 9 iS _ 1 16 Tryz.underlying27 hiS hz0 hz1 hz2 rfl (by omega) (some ⟨G, 0, none⟩) l.length l.length (l.map enS) (by rfl) (fun h => by cases h) (by simp) (fun b hb => by cases hb; exact own_al HO.out _) ⟨w.heap.size, 0, none⟩ 1 1 [.string nm] (by rfl) rfl (World.news_of_block (cs := #[.string nm]) (t := 9) (fr := (0, 0)) (heap_alloc_new w _)) (by simp [Value.oneCell']) (by omega) (by unfold maxLen; omega) (by omega) ?_; intro v2 w2 hown2 hgrow2; obtain ⟨g2, cap2, rfl, hge2, hlt2⟩ := hown2.form (by omega); have hm6 := Blk.grown' hgrow2 (HB.out.alloc (.cells #[.string nm] 9)) (by simp); have y0 := hm6.cell 0; have y1 := hm6.frz 0; have y2 := hm6.lt; clear hm6)
        all_goals
          have hm6 := Blk.grown' hgrow2 (HB.out.alloc (.cells #[.string nm] 9)) (by simp)
          clear y0 y1
          go_wp2_with fail
          go_end0
          have hge3 : w.heap.size + 1 ≤ g2 := by simpa using hge2
          have hnm : (putS nm.data.toList l).length = l.length + 1 ∧ (putS nm.data.toList l).map enS = l.map enS ++ [.string nm] := by rw [HP.out]; simp [enS]
          rw [hnm.1, hnm.2]
          refine ⟨g2, cap2, rfl, hm6.set 0 _, ?_, by refine put_grown ?_ hgrow2; exact ⟨rfl, rfl, rfl, by simp, fun k hk _ => Below.heap_alloc w _ k hk⟩⟩
          exact (World.ownsRow.mono hown2 (by simp)).kept (grown_setN _ ⟨gO, 0, none⟩ _) (Or.inr (by simp [Value.ownBlock]; omega))
end Go.Proofs.YthkiohemolndeaaGreatDoor
