/- What the reference's Parse keeps in memory, and its steps. -/
import Derived.Test.YtcoapllgpjjbcaaPqB
namespace Go.Proofs.Ytcoapllgpjjbcaa
open Go.RowKit
set_option linter.unusedVariables false
section
variable {w W W2 : World} {m : Nat} {T C T' C' : Value} {f : Int} {ts : List Ty} {cs : List Ch}
structure PbS (w W : World) (m : Nat) (T C : Value) (f : Int) (ts : List Ty) (cs : List Ch) : Prop where
  r : Blk W w.heap.size 25 #[.slice none 0 0, .int .i64 0, .slice none 0 0]
  mb : Blk W m 25 #[T, .int .i64 f, C]
  hm : w.heap.size < m
  hT : W.ownsRow w.heap.size 50 3 T ts.length (ts.map tyCells).flatten
  hC : W.ownsRow w.heap.size 52 2 C cs.length (cs.map chCells).flatten
  b : Below w.heap.size w W
theorem PbS.step (h : PbS w W m T C f ts cs) (hb : Below W.heap.size W W2) : PbS w W2 m T C f ts cs :=
  ⟨h.r.step hb, h.mb.step hb, h.hm, own_step h.hT hb, own_step h.hC hb, h.b.trans (hb.mono h.b.size)⟩
theorem PbS.alloc (h : PbS w W m T C f ts cs) (o : Obj) : PbS w (W.alloc o) m T C f ts cs := h.step ((Below.refl _ _).alloc (Nat.le_refl _) _)
theorem PbS.drew (h : PbS w W m T C f ts cs) : PbS w W.drew m T C f ts cs := h.step (Below.refl _ _).drew
theorem PbS.appT {x : Ty} (h : PbS w W m T C f ts cs) (hg : W.grownBy W2 T.ownBlock) (ho : W2.ownsRow w.heap.size 50 3 T' (ts.length + 1) ((ts.map tyCells).flatten ++ tyCells x)) :
    PbS w (W2.setCell ⟨m, 0, none⟩ T') m T' C f (ts ++ [x]) cs := by
  have hbz := h.b.size
  have hm := h.hm
  have hB : Below w.heap.size W (W2.setCell ⟨m, 0, none⟩ T') := (below_app hbz h.hT hg).setCell (p := ⟨m, 0, none⟩) (Nat.le_of_lt hm) _
  have k1 := h.mb.grown hg (h.mb.own_ne h.hT (by decide))
  have k3 := (h.r.grown hg (h.r.own_ne h.hT (by decide))).far (a := ⟨m, 0, none⟩) (Nat.ne_of_lt hm) T'
  have c1 := h.hC.kept hg (own_ne h.hC h.hT (by decide))
  refine ⟨k3, k1.set 0 T', hm, ?_, ownsRow_setCell_other c1 (k1.own_ne c1 (by decide)) _, h.b.trans hB⟩
  have := ownsRow_setCell_other ho (a := ⟨m, 0, none⟩) (k1.own_ne ho (by decide)) T'
  simpa using this
theorem PbS.appC {c : Ch} (h : PbS w W m T C f ts cs) (hg : W.grownBy W2 C.ownBlock) (ho : W2.ownsRow w.heap.size 52 2 C' (cs.length + 1) ((cs.map chCells).flatten ++ chCells c)) :
    PbS w (W2.setCell ⟨m, 2, none⟩ C') m T C' f ts (cs ++ [c]) := by
  have hbz := h.b.size
  have hm := h.hm
  have hB : Below w.heap.size W (W2.setCell ⟨m, 2, none⟩ C') := (below_app hbz h.hC hg).setCell (p := ⟨m, 2, none⟩) (Nat.le_of_lt hm) _
  have k1 := h.mb.grown hg (h.mb.own_ne h.hC (by decide))
  have k3 := (h.r.grown hg (h.r.own_ne h.hC (by decide))).far (a := ⟨m, 2, none⟩) (Nat.ne_of_lt hm) C'
  have c1 := h.hT.kept hg (own_ne h.hT h.hC (by decide))
  refine ⟨k3, k1.set 2 C', hm, ownsRow_setCell_other c1 (k1.own_ne c1 (by decide)) _, ?_, h.b.trans hB⟩
  have := ownsRow_setCell_other ho (a := ⟨m, 2, none⟩) (k1.own_ne ho (by decide)) C'
  simpa using this
theorem PbS.tab (h : PbS w W m T C f ts cs) (hn : ∀ t ∈ ts, t.2.2.size ≤ maxLen) :
    ∃ A capA C' capC, T = .slice A ts.length capA ∧ C = .slice C' cs.length capC ∧ TabAt W A C' capA capC ts cs := by
  obtain ⟨A, cap, e1, h1, h2, hA⟩ := own_at (xss := ts.map tyCells) (by simpa using h.hT) (by intro xs hx; obtain ⟨t, _, rfl⟩ := List.mem_map.1 hx; rfl)
  obtain ⟨A2, cap2, e2, g1, g2, hA2⟩ := own_at (xss := cs.map chCells) (by simpa using h.hC) (by intro xs hx; obtain ⟨t, _, rfl⟩ := List.mem_map.1 hx; rfl)
  rw [List.length_map] at e1 e2 h1 g1
  exact ⟨A, cap, A2, cap2, e1, e2, hA, hA2, h1, h2, g1, g2, hn⟩
theorem PbS.fin {A A2 : Option Addr} {c c2 : Nat} (h : PbS w W m (.slice A ts.length c) (.slice A2 cs.length c2) f ts cs) (hn : ∀ t ∈ ts, t.2.2.size ≤ maxLen) (v0 v1 v2 : Value) :
    TabAt (((W.setCell ⟨w.heap.size, 0, none⟩ v0).setCell ⟨w.heap.size, 1, none⟩ v1).setCell ⟨w.heap.size, 2, none⟩ v2) A A2 c c2 ts cs := by
  have b1 := h.r.set 0 v0
  have b2 := b1.set 1 v1
  have t1 := ownsRow_setCell_other h.hT (a := ⟨w.heap.size, 0, none⟩) (h.r.own_ne h.hT (by decide)) v0
  have t2 := ownsRow_setCell_other t1 (a := ⟨w.heap.size, 1, none⟩) (b1.own_ne t1 (by decide)) v1
  have t3 := ownsRow_setCell_other t2 (a := ⟨w.heap.size, 2, none⟩) (b2.own_ne t2 (by decide)) v2
  have u1 := ownsRow_setCell_other h.hC (a := ⟨w.heap.size, 0, none⟩) (h.r.own_ne h.hC (by decide)) v0
  have u2 := ownsRow_setCell_other u1 (a := ⟨w.heap.size, 1, none⟩) (b1.own_ne u1 (by decide)) v1
  have u3 := ownsRow_setCell_other u2 (a := ⟨w.heap.size, 2, none⟩) (b2.own_ne u2 (by decide)) v2
  obtain ⟨A', cap, e1, h1, h2, hA⟩ := own_at (xss := ts.map tyCells) (by simpa using t3) (by intro xs hx; obtain ⟨t, _, rfl⟩ := List.mem_map.1 hx; rfl)
  obtain ⟨A2', cap2, e2, g1, g2, hA2⟩ := own_at (xss := cs.map chCells) (by simpa using u3) (by intro xs hx; obtain ⟨t, _, rfl⟩ := List.mem_map.1 hx; rfl)
  rw [List.length_map] at e1 e2 h1 g1
  cases e1
  cases e2
  exact ⟨hA, hA2, h1, h2, g1, g2, hn⟩
theorem PbS.start (w : World) (f : Int) : PbS w ((w.alloc (.cells #[.slice none 0 0, .int .i64 0, .slice none 0 0] 25)).alloc (.cells #[.slice none 0 0, .int .i64 f, .slice none 0 0] 25)) (w.heap.size + 1) (.slice none 0 0) (.slice none 0 0) f [] [] :=
  ⟨(Blk.new w _ _).alloc _, Blk.new' _ _ _ (by simp), by omega, World.ownsRow_nil _ _ _ _, World.ownsRow_nil _ _ _ _, ((Below.refl _ _).alloc (Nat.le_refl _) _).alloc (by simp) _⟩
end
theorem pa_short_C {bs : List Int} {nC k : Nat} (h8 : 8 ≤ bs.length) (h20 : bs.length ≤ 20000) (HP2 : paC bs = runC nC (paT bs).2) (hk : k ≤ nC) (h : (runC k (paT bs).2).2.2 = true) : paE bs = 4 := by
  unfold paE; rw [if_neg (by omega), if_neg (by omega), if_pos (by rw [HP2, runC_stop h hk]; exact h)]
theorem pa_short_T {bs : List Int} {s0 : RS} {nT nC k : Nat} (h8 : 8 ≤ bs.length) (h20 : bs.length ≤ 20000) (HP1 : paT bs = runT nT s0) (HP2 : paC bs = runC nC (paT bs).2) (hk : k ≤ nT) (h : (runT k s0).2.2 = true) : paE bs = 4 :=
  pa_short_C h8 h20 HP2 (Nat.le_refl _) (runC_short0 (by rw [HP1]; exact runT_short h hk) _)
/-- slices of the bytes -/
theorem sl_part {w : World} {B b o : Nat} {l : List Int} (h : SlAt w B 1 (some ⟨b, o, none⟩) (l.map byCells)) (p n : Nat) : SlAt w B 1 (some ⟨b, o + p, none⟩) (((l.drop p).take n).map byCells) := sl_take (sl_drop h p) n
theorem by_cell {w : World} {B b o : Nat} {l : List Int} (h : SlAt w B 1 (some ⟨b, o, none⟩) (l.map byCells)) {k : Nat} (hk : k < l.length) : w.cell? ⟨b, o + k, none⟩ = some (.int .u8 (l.getD k 0)) := by
  obtain ⟨b', o', e, _, hc⟩ := by_at h hk
  simp at e
  obtain ⟨rfl, rfl⟩ := e
  rw [hc]; simp [List.getD, hk]
end Go.Proofs.Ytcoapllgpjjbcaa
