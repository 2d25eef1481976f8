/- What pack.Parse keeps in memory, and its steps. -/
import Derived.Test.YtcoapllgpjjbcaaPqA
import Derived.Test.YtcoapllgpjjbcaaPkC
import Derived.Test.YtcoapllgpjjbcaaTabEq
import Derived.Deep.RegionHeld3
import Derived.Deep.DrawnRows
import Derived.Deep.RegionLaw
namespace Go.Proofs.Ytcoapllgpjjbcaa
open Go.RowKit
set_option linter.unusedVariables false
section
variable {w W W2 : World} {g m : Nat} {T C T' C' : Value} {f : Int} {ts : List Ty} {cs : List Ch} {s s2 : RS}
theorem RdAt.step {B : Nat} (h : RdAt W B g s) (hb : Below W.heap.size W W2) : RdAt W2 B g s := by
  obtain ⟨h0, h1, A, cap, hk, h3, h4, h5, h6⟩ := h
  exact ⟨h0, h1, A, cap, hk.step hb, h3, h4, h5.below (hb.mono (by have := hk.lt; omega)), h6⟩
theorem RdAt.blk {B : Nat} (h : RdAt W B g s) : ∃ A cap, Blk W g 56 #[.slice A s.1.length cap, .bool s.2] := by
  obtain ⟨h0, h1, A, cap, hk, h3, h4, h5, h6⟩ := h
  exact ⟨A, cap, hk⟩
structure PaS (w W : World) (g m : Nat) (T C : Value) (f : Int) (ts : List Ty) (cs : List Ch) (s : RS) : Prop where
  r : Blk W w.heap.size 25 #[.slice none 0 0, .int .i64 0, .slice none 0 0]
  rd : RdAt W w.heap.size g s
  mb : Blk W m 25 #[T, .int .i64 f, C]
  hm : w.heap.size < m
  hT : W.ownsRow w.heap.size 50 3 T ts.length (ts.map tyCells).flatten
  hC : W.ownsRow w.heap.size 52 2 C cs.length (cs.map chCells).flatten
  b : Below w.heap.size w W
theorem PaS.rdk (h : PaS w W g m T C f ts cs s) (hr : RdAt W2 w.heap.size g s2) (hk : RdK w.heap.size g W W2) : PaS w W2 g m T C f ts cs s2 := by
  obtain ⟨A, cap, kb⟩ := h.rd.blk
  exact ⟨hk.blk h.r (h.r.ne kb (by decide)), hr, hk.blk h.mb (h.mb.ne kb (by decide)), h.hm, hk.own h.hT (kb.own_ne h.hT (by decide)), hk.own h.hC (kb.own_ne h.hC (by decide)), h.b.trans hk.1⟩
theorem PaS.step (h : PaS w W g m T C f ts cs s) (hb : Below W.heap.size W W2) : PaS w W2 g m T C f ts cs s :=
  ⟨h.r.step hb, h.rd.step hb, h.mb.step hb, h.hm, own_step h.hT hb, own_step h.hC hb, h.b.trans (hb.mono h.b.size)⟩
theorem PaS.alloc (h : PaS w W g m T C f ts cs s) (o : Obj) : PaS w (W.alloc o) g m T C f ts cs s := h.step ((Below.refl _ _).alloc (Nat.le_refl _) _)
theorem PaS.drew (h : PaS w W g m T C f ts cs s) : PaS w W.drew g m T C f ts cs s := h.step (Below.refl _ _).drew
theorem PaS.appT {x : Ty} (h : PaS w W g m T C f ts cs s) (hg : W.grownBy W2 T.ownBlock) (ho : W2.ownsRow w.heap.size 50 3 T' (ts.length + 1) ((ts.map tyCells).flatten ++ tyCells x)) :
    PaS w (W2.setCell ⟨m, 0, none⟩ T') g m T' C f (ts ++ [x]) cs s := by
  obtain ⟨h0, h1, A, cap, kb, h3, h4, h5, h6⟩ := h.rd
  have hbz := h.b.size
  have hm := h.hm
  have hB : Below w.heap.size W (W2.setCell ⟨m, 0, none⟩ T') := (below_app hbz h.hT hg).setCell (p := ⟨m, 0, none⟩) (Nat.le_of_lt hm) _
  have k1 := h.mb.grown hg (h.mb.own_ne h.hT (by decide))
  have k2 := (kb.grown hg (kb.own_ne h.hT (by decide))).far (a := ⟨m, 0, none⟩) (kb.ne h.mb (by decide)) T'
  have k3 := (h.r.grown hg (h.r.own_ne h.hT (by decide))).far (a := ⟨m, 0, none⟩) (Nat.ne_of_lt hm) T'
  have c1 := h.hC.kept hg (own_ne h.hC h.hT (by decide))
  refine ⟨k3, ⟨h0, h1, A, cap, k2, h3, h4, h5.below hB, h6⟩, k1.set 0 T', hm, ?_, ownsRow_setCell_other c1 (k1.own_ne c1 (by decide)) _, h.b.trans hB⟩
  have := ownsRow_setCell_other ho (a := ⟨m, 0, none⟩) (k1.own_ne ho (by decide)) T'
  simpa using this
theorem PaS.appC {c : Ch} (h : PaS w W g m T C f ts cs s) (hg : W.grownBy W2 C.ownBlock) (ho : W2.ownsRow w.heap.size 52 2 C' (cs.length + 1) ((cs.map chCells).flatten ++ chCells c)) :
    PaS w (W2.setCell ⟨m, 2, none⟩ C') g m T C' f ts (cs ++ [c]) s := by
  obtain ⟨h0, h1, A, cap, kb, h3, h4, h5, h6⟩ := h.rd
  have hbz := h.b.size
  have hm := h.hm
  have hB : Below w.heap.size W (W2.setCell ⟨m, 2, none⟩ C') := (below_app hbz h.hC hg).setCell (p := ⟨m, 2, none⟩) (Nat.le_of_lt hm) _
  have k1 := h.mb.grown hg (h.mb.own_ne h.hC (by decide))
  have k2 := (kb.grown hg (kb.own_ne h.hC (by decide))).far (a := ⟨m, 2, none⟩) (kb.ne h.mb (by decide)) C'
  have k3 := (h.r.grown hg (h.r.own_ne h.hC (by decide))).far (a := ⟨m, 2, none⟩) (Nat.ne_of_lt hm) C'
  have c1 := h.hT.kept hg (own_ne h.hT h.hC (by decide))
  refine ⟨k3, ⟨h0, h1, A, cap, k2, h3, h4, h5.below hB, h6⟩, k1.set 2 C', hm, ownsRow_setCell_other c1 (k1.own_ne c1 (by decide)) _, ?_, h.b.trans hB⟩
  have := ownsRow_setCell_other ho (a := ⟨m, 2, none⟩) (k1.own_ne ho (by decide)) C'
  simpa using this
theorem PaS.far {x i : Nat} {cx : Array Value} (h : PaS w W g m T C f ts cs s) (kx : Blk W x 50 cx) (hx : T.ownBlock ≠ some x) (hl : w.heap.size ≤ x) (v : Value) : PaS w (W.setCell ⟨x, i, none⟩ v) g m T C f ts cs s := by
  obtain ⟨h0, h1, A, cap, kb, h3, h4, h5, h6⟩ := h.rd
  have hB : Below w.heap.size W (W.setCell ⟨x, i, none⟩ v) := (Below.refl _ _).setCell (p := ⟨x, i, none⟩) hl _
  exact ⟨h.r.far (a := ⟨x, i, none⟩) (h.r.ne kx (by decide)) v, ⟨h0, h1, A, cap, kb.far (a := ⟨x, i, none⟩) (kb.ne kx (by decide)) v, h3, h4, h5.below hB, h6⟩, h.mb.far (a := ⟨x, i, none⟩) (h.mb.ne kx (by decide)) v, h.hm,
    ownsRow_setCell_other h.hT hx _, ownsRow_setCell_other h.hC (kx.own_ne h.hC (by decide)) _, h.b.trans hB⟩
theorem PaS.fin {A A2 : Option Addr} {c c2 : Nat} (h : PaS w W g m (.slice A ts.length c) (.slice A2 cs.length c2) f ts cs s) (hn : ∀ t ∈ ts, t.2.2.size ≤ maxLen) (v0 v1 v2 : Value) :
    TabAt (((W.setCell ⟨w.heap.size, 0, none⟩ v0).setCell ⟨w.heap.size, 1, none⟩ v1).setCell ⟨w.heap.size, 2, none⟩ v2) A A2 c c2 ts cs := by
  have b1 := h.r.set 0 v0
  have b2 := b1.set 1 v1
  have t1 := ownsRow_setCell_other h.hT (a := ⟨w.heap.size, 0, none⟩) (h.r.own_ne h.hT (by decide)) v0
  have t2 := ownsRow_setCell_other t1 (a := ⟨w.heap.size, 1, none⟩) (b1.own_ne t1 (by decide)) v1
  have t3 := ownsRow_setCell_other t2 (a := ⟨w.heap.size, 2, none⟩) (b2.own_ne t2 (by decide)) v2
  have u1 := ownsRow_setCell_other h.hC (a := ⟨w.heap.size, 0, none⟩) (h.r.own_ne h.hC (by decide)) v0
  have u2 := ownsRow_setCell_other u1 (a := ⟨w.heap.size, 1, none⟩) (b1.own_ne u1 (by decide)) v1
  have u3 := ownsRow_setCell_other u2 (a := ⟨w.heap.size, 2, none⟩) (b2.own_ne u2 (by decide)) v2
  obtain ⟨A', cap, e1, h1, h2, hA⟩ := own_at (xss := ts.map tyCells) (by simpa using t3) (by intro xs hx; obtain ⟨t, _, rfl⟩ := List.mem_map.1 hx; rfl)
  obtain ⟨A2', cap2, e2, g1, g2, hA2⟩ := own_at (xss := cs.map chCells) (by simpa using u3) (by intro xs hx; obtain ⟨t, _, rfl⟩ := List.mem_map.1 hx; rfl)
  rw [List.length_map] at e1 e2 h1 g1
  cases e1
  cases e2
  exact ⟨hA, hA2, h1, h2, g1, g2, hn⟩
theorem PaS.kept {x : Nat} {t : TypeId} {cx : Array Value} (h : PaS w W g m T C f ts cs s) (hk : RdK w.heap.size g W W2) (kx : Blk W x t cx) (ht : t ≠ 56) : Blk W2 x t cx := by
  obtain ⟨A, cap, kb⟩ := h.rd.blk
  exact hk.blk kx (kx.ne kb ht)
/-- the table that is read, as Pack is handed it -/
theorem PaS.tab (h : PaS w W g m T C f ts cs s) (hn : ∀ t ∈ ts, t.2.2.size ≤ maxLen) :
    ∃ A capA C' capC, T = .slice A ts.length capA ∧ C = .slice C' cs.length capC ∧ TabAt W A C' capA capC ts cs := by
  obtain ⟨A, cap, e1, h1, h2, hA⟩ := own_at (xss := ts.map tyCells) (by simpa using h.hT) (by intro xs hx; obtain ⟨t, _, rfl⟩ := List.mem_map.1 hx; rfl)
  obtain ⟨A2, cap2, e2, g1, g2, hA2⟩ := own_at (xss := cs.map chCells) (by simpa using h.hC) (by intro xs hx; obtain ⟨t, _, rfl⟩ := List.mem_map.1 hx; rfl)
  rw [List.length_map] at e1 e2 h1 g1
  exact ⟨A, cap, A2, cap2, e1, e2, hA, hA2, h1, h2, g1, g2, hn⟩
end
theorem p_num1 (B g : Nat) (s : RS) (w : World) (h : RdAt w B g s) : Calls Try.prog 21 #[.pointer (some ⟨g, 0, none⟩), .int .i64 1] w fun e w' => e = .returned (.int .u64 (rdM s 1).1) ∧ RdAt w' B g (rdM s 1).2 ∧ RdK B g w w' := p_number B g 1 s w h (by omega)
theorem p_num2 (B g : Nat) (s : RS) (w : World) (h : RdAt w B g s) : Calls Try.prog 21 #[.pointer (some ⟨g, 0, none⟩), .int .i64 2] w fun e w' => e = .returned (.int .u64 (rdM s 2).1) ∧ RdAt w' B g (rdM s 2).2 ∧ RdK B g w w' := p_number B g 2 s w h (by omega)
theorem p_num4 (B g : Nat) (s : RS) (w : World) (h : RdAt w B g s) : Calls Try.prog 21 #[.pointer (some ⟨g, 0, none⟩), .int .i64 4] w fun e w' => e = .returned (.int .u64 (rdM s 4).1) ∧ RdAt w' B g (rdM s 4).2 ∧ RdK B g w w' := p_number B g 4 s w h (by omega)
theorem p_num8 (B g : Nat) (s : RS) (w : World) (h : RdAt w B g s) : Calls Try.prog 21 #[.pointer (some ⟨g, 0, none⟩), .int .i64 8] w fun e w' => e = .returned (.int .u64 (rdM s 8).1) ∧ RdAt w' B g (rdM s 8).2 ∧ RdK B g w w' := p_number B g 8 s w h (by omega)
theorem strOf_size (l : List Int) : (Go.strOfNums l).size = l.length := strOfNums_size l
theorem rdTy_name {s : RS} (h : Byt s.1) : (rdTy s).1.2.2.size ≤ 255 := by
  have h1 := rdM_bd (rdM_byt (rdM_byt h 4) 1) 1
  have h2 : (rdTy s).1.2.2.size = (rdM (rdM (rdM s 4).2 1).2 1).1.toNat := by
    show (Go.strOfNums (rdB _ _).1).size = _
    rw [strOfNums_size, rdB_len]
  omega
theorem runT_names {s : RS} (h : Byt s.1) : ∀ k, ∀ t ∈ (runT k s).1, t.2.2.size ≤ maxLen
  | 0, t, ht => by simp [runT] at ht
  | k + 1, t, ht => by
    rw [runT, List.mem_append] at ht
    rcases ht with ht | ht
    · exact runT_names h k t ht
    · have := rdTy_name (runT_byt h k)
      simp at ht
      rw [ht]; unfold maxLen; omega
/-- what the bytes say -/
def paV (bs : List Int) : List Ty × Int × List Ch := if paE bs = 0 then ((paT bs).1, bs.getD 5 0, (paC bs).1) else ([], 0, [])
def ParPost (bs : List Int) (w : World) (e : Ending) (w' : World) : Prop :=
  ∃ A C capT capC, e = .returned (.tuple #[tabV A C capT capC (paV bs).1 (paV bs).2.1 (paV bs).2.2, .int .i64 (paE bs)]) ∧ TabAt w' A C capT capC (paV bs).1 (paV bs).2.2 ∧ Below w.heap.size w w'
theorem par_ok {bs : List Int} {w w' : World} {e : Ending} {A C : Option Addr} {capT capC : Nat} (h0 : paE bs = 0) (he : e = .returned (.tuple #[tabV A C capT capC (paT bs).1 (bs.getD 5 0) (paC bs).1, .int .i64 0])) (ht : TabAt w' A C capT capC (paT bs).1 (paC bs).1) (hb : Below w.heap.size w w') : ParPost bs w e w' := by
  have : paV bs = ((paT bs).1, bs.getD 5 0, (paC bs).1) := by unfold paV; rw [if_pos h0]
  exact ⟨A, C, capT, capC, by rw [this, h0]; exact he, by rw [this]; exact ht, hb⟩
theorem par_bad {bs : List Int} {w w' : World} {e : Ending} {n : Int} (hn : paE bs = n) (h0 : ¬ n = 0) (he : e = .returned (.tuple #[.agg #[.slice none 0 0, .int .i64 0, .slice none 0 0], .int .i64 n])) (hb : Below w.heap.size w w') : ParPost bs w e w' := by
  have : paV bs = ([], 0, []) := by unfold paV; rw [if_neg (by rw [hn]; exact h0)]
  refine ⟨none, none, 0, 0, ?_, ?_, hb⟩
  · rw [this, hn]; exact he
  · rw [this]; exact TabAt.zero _
end Go.Proofs.Ytcoapllgpjjbcaa
