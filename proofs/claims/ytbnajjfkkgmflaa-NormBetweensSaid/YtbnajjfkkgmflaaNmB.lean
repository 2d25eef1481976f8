/- Walks of the methods of Maker. -/
import Derived.Test.YtbnajjfkkgmflaaNmA
namespace Go.Proofs.Ytbnajjfkkgmflaa
open Go.RowKit
set_option linter.unusedVariables false
attribute [local go_sem ↓] Go.wp_at_zero Go.wp_at_succ
abbrev mkV (T C : Value) (x : Ty) : Array Value := #[T, .int .i64 0, C, .int .i64 x.1, .bool x.2.1, .string x.2.2]
/-- a Maker in memory -/
structure MkC (w : World) (base m : Nat) (T C : Value) (s : NSt) : Prop where
  hb : base ≤ m
  blk : Blk w m 63 (mkV T C s.last)
  hT : w.ownsRow base 45 3 T s.ts.length (s.ts.map tyCells).flatten
  hC : w.ownsRow base 42 2 C s.cs.length (s.cs.map chCells).flatten
theorem info_Type : (Try.prog.info? 45).map (fun i => (i.zero, i.size, i.bytes)) = some (some (.agg #[.int .i64 0, .bool false, .string ⟨#[]⟩]), 3, 32) := by kernel_rfl
theorem info_Change : (Try.prog.info? 42).map (fun i => (i.zero, i.size, i.bytes)) = some (some (.agg #[.int .i64 0, .int .i64 0]), 2, 16) := by kernel_rfl
section
variable {w W W2 : World} {base m : Nat} {T C T' C' : Value} {s : NSt}
theorem MkC.step (h : MkC W base m T C s) (hb : Below W.heap.size W W2) : MkC W2 base m T C s := ⟨h.hb, h.blk.step hb, own_step h.hT hb, own_step h.hC hb⟩
theorem MkC.alloc (h : MkC W base m T C s) (o : Obj) : MkC (W.alloc o) base m T C s := h.step ((Below.refl _ _).alloc (Nat.le_refl _) _)
theorem MkC.drew (h : MkC W base m T C s) : MkC W.drew base m T C s := h.step (Below.refl _ _).drew
theorem MkC.drewN (h : MkC W base m T C s) (n : Nat) : MkC (W.drewN n) base m T C s := h.step (below_drewN (Below.refl _ _) n)
theorem MkC.lt (h : MkC W base m T C s) : base ≤ W.heap.size := Nat.le_of_lt (Nat.lt_of_le_of_lt h.hb h.blk.lt)
theorem mk_app_T {x : Ty} (h : MkC W base m T C s) (hg : W.grownBy W2 T.ownBlock) (ho : W2.ownsRow base 45 3 T' (s.ts.length + 1) ((s.ts.map tyCells).flatten ++ tyCells x)) :
    MkC (W2.setCell ⟨m, 0, none⟩ T') base m T' C ⟨s.ts ++ [x], s.cs, s.last⟩ ∧ Below base W (W2.setCell ⟨m, 0, none⟩ T') := by
  have hm := h.blk.grown hg (h.blk.own_ne h.hT (by decide))
  have hC := h.hC.kept hg (own_ne h.hC h.hT (by decide))
  refine ⟨⟨h.hb, hm.set 0 T', ?_, ownsRow_setCell_other hC (hm.own_ne hC (by decide)) _⟩, (below_app h.lt h.hT hg).setCell h.hb _⟩
  have := ownsRow_setCell_other ho (a := ⟨m, 0, none⟩) (hm.own_ne ho (by decide)) T'
  simpa using this
theorem mk_app_C {c : Ch} (h : MkC W base m T C s) (hg : W.grownBy W2 C.ownBlock) (ho : W2.ownsRow base 42 2 C' (s.cs.length + 1) ((s.cs.map chCells).flatten ++ chCells c)) :
    MkC (W2.setCell ⟨m, 2, none⟩ C') base m T C' ⟨s.ts, s.cs ++ [c], s.last⟩ ∧ Below base W (W2.setCell ⟨m, 2, none⟩ C') := by
  have hm := h.blk.grown hg (h.blk.own_ne h.hC (by decide))
  have hT := h.hT.kept hg (own_ne h.hT h.hC (by decide))
  refine ⟨⟨h.hb, hm.set 2 C', ownsRow_setCell_other hT (hm.own_ne hT (by decide)) _, ?_⟩, (below_app h.lt h.hC hg).setCell h.hb _⟩
  have := ownsRow_setCell_other ho (a := ⟨m, 2, none⟩) (hm.own_ne ho (by decide)) C'
  simpa using this
theorem mk_last {x : Ty} (h : MkC W base m T C s) :
    MkC (((W.setCell ⟨m, 3, none⟩ (.int .i64 x.1)).setCell ⟨m, 4, none⟩ (.bool x.2.1)).setCell ⟨m, 5, none⟩ (.string x.2.2)) base m T C ⟨s.ts, s.cs, x⟩ ∧
      Below base W (((W.setCell ⟨m, 3, none⟩ (.int .i64 x.1)).setCell ⟨m, 4, none⟩ (.bool x.2.1)).setCell ⟨m, 5, none⟩ (.string x.2.2)) := by
  have b1 := h.blk.set 3 (.int .i64 x.1)
  have b2 := b1.set 4 (.bool x.2.1)
  have b3 := b2.set 5 (.string x.2.2)
  have t1 := ownsRow_setCell_other h.hT (a := ⟨m, 3, none⟩) (h.blk.own_ne h.hT (by decide)) (.int .i64 x.1)
  have t2 := ownsRow_setCell_other t1 (a := ⟨m, 4, none⟩) (b1.own_ne t1 (by decide)) (.bool x.2.1)
  have t3 := ownsRow_setCell_other t2 (a := ⟨m, 5, none⟩) (b2.own_ne t2 (by decide)) (.string x.2.2)
  have c1 := ownsRow_setCell_other h.hC (a := ⟨m, 3, none⟩) (h.blk.own_ne h.hC (by decide)) (.int .i64 x.1)
  have c2 := ownsRow_setCell_other c1 (a := ⟨m, 4, none⟩) (b1.own_ne c1 (by decide)) (.bool x.2.1)
  have c3 := ownsRow_setCell_other c2 (a := ⟨m, 5, none⟩) (b2.own_ne c2 (by decide)) (.string x.2.2)
  exact ⟨⟨h.hb, b3, t3, c3⟩, (((Below.refl _ _).setCell h.hb _).setCell h.hb _).setCell h.hb _⟩
end
end Go.Proofs.Ytbnajjfkkgmflaa
