/- Part 43 of the proof of BookParses: no condition; what its declarations say stands at each. -/
import Derived.Test.YthppifcggmdmoaaGreatDoorJ24
import Derived.Test.YthppifcggmdmoaaGreatDoorJ26
import Derived.Test.YthppifcggmdmoaaGreatDoorJ29
import Derived.Test.YthppifcggmdmoaaGreatDoorJ28
import Derived.Test.YthppifcggmdmoaaGreatDoorJ36
import Derived.Test.YthppifcggmdmoaaGreatDoorJ42
namespace Go.Proofs.YthppifcggmdmoaaGreatDoor
open Go.RowKit
set_option linter.unusedVariables false
set_option linter.unusedSimpArgs false
structure BrW (w wr : World) (base rd : Nat) (RV ZV LV : Value) (rs : List RuT) (zs : List ZoT) (ls : List LkT) : Prop where
 L : Below base w wr
 R : Blk wr rd 26 #[RV, ZV, LV]
 M : PbM wr base RV ZV LV rs zs ls
 S : ∀ g cs, Blk w g 9 cs → Blk wr g 9 cs
 h1 : base ≤ wr.heap.size
 h2 : base ≤ rd
section
variable {w wr wr2 : World} {base rd : Nat} {RV ZV LV : Value} {rs : List RuT} {zs : List ZoT} {ls : List LkT}
theorem BrW.step (h : BrW w wr base rd RV ZV LV rs zs ls) (hb : Below wr.heap.size wr wr2) : BrW w wr2 base rd RV ZV LV rs zs ls :=
 ⟨h.L.trans (hb.mono h.h1), h.R.step hb, h.M.step hb, fun g cs hg => (h.S g cs hg).step hb, Nat.le_trans h.h1 hb.size, h.h2⟩
theorem BrW.off (h : BrW w wr base rd RV ZV LV rs zs ls) {g : Nat} {t : TypeId} {cs : Array Value} (hb : Blk wr g t cs) (hg : base ≤ g) (n0 : t ≠ 26) (n1 : t ≠ 70) (n2 : t ≠ 75) (n3 : t ≠ 77) (n4 : t ≠ 80 ∨ ∀ z ∈ zs, (zoS z).ownBlock ≠ some g) (n5 : t ≠ 9) (i : Nat) (u : Value) : BrW w (wr.setCell ⟨g, i, none⟩ u) base rd RV ZV LV rs zs ls :=
 ⟨h.L.setCell (p := ⟨g, i, none⟩) hg u, h.R.far (a := ⟨g, i, none⟩) (h.R.ne hb n0.symm) u,
  ⟨own_off h.M.hR (a := ⟨g, i, none⟩) (hb.own_ne h.M.hR n1) u, own_off h.M.hZ (a := ⟨g, i, none⟩) (hb.own_ne h.M.hZ n2) u, own_off h.M.hL (a := ⟨g, i, none⟩) (hb.own_ne h.M.hL n3) u, fun z hz => own_off (h.M.hE z hz) (a := ⟨g, i, none⟩) (by rcases n4 with n4 | n4; exact hb.own_ne (h.M.hE z hz) n4; exact n4 z hz) u, h.M.hD⟩,
  fun q cs2 hq => (h.S q cs2 hq).far (a := ⟨g, i, none⟩) ((h.S q cs2 hq).ne hb n5.symm) u, by simpa using h.h1, h.h2⟩
end
theorem BrW.here {w wr : World} {base rd : Nat} {RV ZV LV : Value} {rs : List RuT} {zs : List ZoT} {ls : List LkT} (h : BrW w wr base rd RV ZV LV rs zs ls) : BrW wr wr base rd RV ZV LV rs zs ls :=
 ⟨Below.refl _ _, h.R, h.M, fun _ _ h => h, h.h1, h.h2⟩
theorem BrW.trans {w wr w2 : World} {base rd : Nat} {RV ZV LV RV' ZV' LV' : Value} {rs rs' : List RuT} {zs zs' : List ZoT} {ls ls' : List LkT} (h : BrW w wr base rd RV ZV LV rs zs ls) (h2 : BrW wr w2 base rd RV' ZV' LV' rs' zs' ls') : BrW w w2 base rd RV' ZV' LV' rs' zs' ls' :=
 ⟨h.L.trans h2.L, h2.R, h2.M, fun g cs hg => h2.S g cs (h.S g cs hg), h2.h1, h2.h2⟩
theorem RR_fin {w v0 w6 : World} {base rd : Nat} {RV ZV LV RV' : Value} {rs : List RuT} {zs : List ZoT} {ls : List LkT} {r : RuT} {cs : Array Value} (h : BrW w v0 base rd RV ZV LV rs zs ls) (ho : w6.ownsRow base 70 11 RV' (rs.length + 1) ((rs.map ruC).flatten ++ ruC r)) (hg : (v0.alloc (.cells cs 70)).grownBy w6 RV.ownBlock) :
  (w6.cell? ⟨rd, 0, none⟩ = some RV ∧ w6.frozen? ⟨rd, 0, none⟩ = false ∧ rd < w6.heap.size) ∧ Below base w w6 ∧ (∀ X ys, Blk (v0.alloc (.cells cs 70)) X 70 ys → RV.ownBlock ≠ some X → Blk w6 X 70 ys) ∧ BrW w (w6.setCell ⟨rd, 0, none⟩ RV') base rd RV' ZV LV (rs ++ [r]) zs ls := by
 have hV := (Below.refl v0.heap.size v0).alloc (Nat.le_refl _) (.cells cs 70)
 have h' := h.step hV
 have hR6 := h'.R.grown hg (h'.R.own_ne h'.M.hR (by decide))
 have hb6 : Below base w w6 := h'.L.grown hg h'.h1 (fun k hk => (h'.M.hR.lt k hk).1)
 have hM := h'.M.addR ho hg
 refine ⟨⟨hR6.cell 0, hR6.frz 0, hR6.lt⟩, hb6, fun X ys hX hq => hX.grown hg hq, ⟨hb6.setCell (p := ⟨rd, 0, none⟩) h.h2 _, ?_, hM.off hR6 (by decide) (by decide) (by decide) (by decide) 0 _, fun g c2 hs => ?_, ?_, h.h2⟩⟩
 ·have h0 := hR6.set 0 RV'
  simp only [List.setIfInBounds_toArray, List.set_cons_succ, List.set_cons_zero] at h0
  exact h0
 ·have hs6 := (h'.S g c2 hs).grown hg ((h'.S g c2 hs).own_ne h'.M.hR (by decide))
  exact hs6.far (a := ⟨rd, 0, none⟩) (hs6.ne hR6 (by decide)) _
 ·have := hg.size; have := h'.h1; simp at *; omega
theorem RZ_fin {w v0 w6 : World} {base rd : Nat} {RV ZV LV ZV' : Value} {rs : List RuT} {zs : List ZoT} {ls : List LkT} {nm : ByteArray} {cs : Array Value} (h : BrW w v0 base rd RV ZV LV rs zs ls) (ho : w6.ownsRow base 75 2 ZV' (zs.length + 1) ((zs.map zoC).flatten ++ [.string nm, .slice none 0 0])) (hg : (v0.alloc (.cells cs 75)).grownBy w6 ZV.ownBlock) :
  (w6.cell? ⟨rd, 1, none⟩ = some ZV ∧ w6.frozen? ⟨rd, 1, none⟩ = false ∧ rd < w6.heap.size) ∧ Below base w w6 ∧ (∀ X ys, Blk (v0.alloc (.cells cs 75)) X 75 ys → ZV.ownBlock ≠ some X → Blk w6 X 75 ys) ∧ BrW w (w6.setCell ⟨rd, 1, none⟩ ZV') base rd RV ZV' LV rs (zs ++ [⟨nm, none, 0, []⟩]) ls := by
 have hV := (Below.refl v0.heap.size v0).alloc (Nat.le_refl _) (.cells cs 75)
 have h' := h.step hV
 have hR6 := h'.R.grown hg (h'.R.own_ne h'.M.hZ (by decide))
 have hb6 : Below base w w6 := h'.L.grown hg h'.h1 (fun k hk => (h'.M.hZ.lt k hk).1)
 have hM := h'.M.addZ ho hg
 refine ⟨⟨hR6.cell 1, hR6.frz 1, hR6.lt⟩, hb6, fun X ys hX hq => hX.grown hg hq, ⟨hb6.setCell (p := ⟨rd, 1, none⟩) h.h2 _, ?_, hM.off hR6 (by decide) (by decide) (by decide) (by decide) 1 _, fun g c2 hs => ?_, ?_, h.h2⟩⟩
 ·have h0 := hR6.set 1 ZV'
  simp only [List.setIfInBounds_toArray, List.set_cons_succ, List.set_cons_zero] at h0
  exact h0
 ·have hs6 := (h'.S g c2 hs).grown hg ((h'.S g c2 hs).own_ne h'.M.hZ (by decide))
  exact hs6.far (a := ⟨rd, 1, none⟩) (hs6.ne hR6 (by decide)) _
 ·have := hg.size; have := h'.h1; simp at *; omega
theorem RL_fin {w v0 w6 : World} {base rd : Nat} {RV ZV LV LV' : Value} {rs : List RuT} {zs : List ZoT} {ls : List LkT} {x : LkT} {cs : Array Value} (h : BrW w v0 base rd RV ZV LV rs zs ls) (ho : w6.ownsRow base 77 2 LV' (ls.length + 1) ((ls.map lkC).flatten ++ lkC x)) (hg : (v0.alloc (.cells cs 77)).grownBy w6 LV.ownBlock) :
  (w6.cell? ⟨rd, 2, none⟩ = some LV ∧ w6.frozen? ⟨rd, 2, none⟩ = false ∧ rd < w6.heap.size) ∧ Below base w w6 ∧ (∀ X ys, Blk (v0.alloc (.cells cs 77)) X 77 ys → LV.ownBlock ≠ some X → Blk w6 X 77 ys) ∧ BrW w (w6.setCell ⟨rd, 2, none⟩ LV') base rd RV ZV LV' rs zs (ls ++ [x]) := by
 have hV := (Below.refl v0.heap.size v0).alloc (Nat.le_refl _) (.cells cs 77)
 have h' := h.step hV
 have hR6 := h'.R.grown hg (h'.R.own_ne h'.M.hL (by decide))
 have hb6 : Below base w w6 := h'.L.grown hg h'.h1 (fun k hk => (h'.M.hL.lt k hk).1)
 have hM := h'.M.addL ho hg
 refine ⟨⟨hR6.cell 2, hR6.frz 2, hR6.lt⟩, hb6, fun X ys hX hq => hX.grown hg hq, ⟨hb6.setCell (p := ⟨rd, 2, none⟩) h.h2 _, ?_, hM.off hR6 (by decide) (by decide) (by decide) (by decide) 2 _, fun g c2 hs => ?_, ?_, h.h2⟩⟩
 ·have h0 := hR6.set 2 LV'
  simp only [List.setIfInBounds_toArray, List.set_cons_succ, List.set_cons_zero] at h0
  exact h0
 ·have hs6 := (h'.S g c2 hs).grown hg ((h'.S g c2 hs).own_ne h'.M.hL (by decide))
  exact hs6.far (a := ⟨rd, 2, none⟩) (hs6.ne hR6 (by decide)) _
 ·have := hg.size; have := h'.h1; simp at *; omega
theorem Rera_fin {w v0 w6 : World} {base rd Zb cz gg cap2 : Nat} {RV LV : Value} {rs : List RuT} {Y : List ZoT} {z : ZoT} {ls : List LkT} {x : ErT} {cs : Array Value} (h : BrW w v0 base rd RV (.slice (some ⟨Zb, 0, none⟩) (Y.length + 1) cz) LV rs (Y ++ [z]) ls) (ho : w6.ownsRow base 80 5 (.slice (some ⟨gg, 0, none⟩) (z.eras.length + 1) cap2) (z.eras.length + 1) ((z.eras.map erC).flatten ++ erC x)) (hg : (v0.alloc (.cells cs 80)).grownBy w6 (zoS z).ownBlock) (hat : (zoS z).ownBlock = some gg ∨ gg = v0.heap.size + 1) :
  w6.cell? ⟨Zb, Y.length * 2 + 1, none⟩ = some (.slice z.A z.eras.length z.cap) ∧ w6.frozen? ⟨Zb, Y.length * 2 + 1, none⟩ = false ∧ Zb < w6.heap.size ∧ Below base w w6 ∧ (∀ X xs, Blk (v0.alloc (.cells cs 80)) X 80 xs → (∀ q ∈ Y ++ [z], (zoS q).ownBlock ≠ some X) → Blk w6 X 80 xs) ∧
   BrW w (w6.setCell ⟨Zb, Y.length * 2 + 1, none⟩ (.slice (some ⟨gg, 0, none⟩) (z.eras.length + 1) cap2)) base rd RV (.slice (some ⟨Zb, 0, none⟩) (Y.length + 1) cz) LV rs (Y ++ [⟨z.name, some ⟨gg, 0, none⟩, cap2, z.eras ++ [x]⟩]) ls := by
 have hV := (Below.refl v0.heap.size v0).alloc (Nat.le_refl _) (.cells cs 80)
 have h' := h.step hV
 have hE := h'.M.hE z (by simp)
 have hl : (Y ++ [z]).length = Y.length + 1 := by simp
 have hZ := h'.M.hZ.kept hg (own_ne h'.M.hZ hE (by decide))
 rw [hl] at hZ
 have hb6 : Below base w w6 := h'.L.grown hg h'.h1 (fun k hk => (hE.lt k hk).1)
 have hbZ := (hZ.lt Zb rfl)
 have hM := PbM.addE h'.M ho hg (by rcases hat with e | e; exact Or.inl e; exact Or.inr (by rw [e, size_alloc]; exact Nat.le_refl _))
 have hR := h'.R.grown hg (h'.R.own_ne hE (by decide))
 have nZ : ∀ {g : Nat} {t : TypeId} {cs : Array Value}, Blk w6 g t cs → t ≠ 75 → g ≠ Zb := fun hb hne e => hb.own_ne hZ hne (by rw [e]; rfl)
 refine ⟨?_, hZ.frozenAt _, hbZ.2, hb6, fun X xs hX hq => hX.grown hg (hq z (by simp)), ⟨hb6.setCell (p := ⟨Zb, Y.length * 2 + 1, none⟩) hbZ.1 _, hR.far (a := ⟨Zb, Y.length * 2 + 1, none⟩) (nZ hR (by decide)) _, hM, fun g c2 hs => ?_, ?_, h.h2⟩⟩
 ·rw [hZ.cellAt (Y.length * 2 + 1) (by omega), List.map_append, List.flatten_append, List.getElem?_append_right (by rw [zo_flen]; omega), zo_flen, show Y.length * 2 + 1 - Y.length * 2 = 1 by omega]
  rfl
 ·have hs6 := (h'.S g c2 hs).grown hg ((h'.S g c2 hs).own_ne hE (by decide))
  exact hs6.far (a := ⟨Zb, Y.length * 2 + 1, none⟩) (nZ hs6 (by decide)) _
 ·have := hg.size; have := h'.h1; simp at *; omega
end Go.Proofs.YthppifcggmdmoaaGreatDoor

