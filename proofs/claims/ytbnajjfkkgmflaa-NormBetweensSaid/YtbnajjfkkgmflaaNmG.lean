/- A table that the reference builds, in memory. -/
import Derived.Test.YtbnajjfkkgmflaaNmE
import Derived.Test.YtbnajjfkkgmflaaEqI
namespace Go.Proofs.Ytbnajjfkkgmflaa
open Go.RowKit
set_option linter.unusedVariables false
abbrev btV (T C : Value) : Array Value := #[T, .int .i64 0, C]
abbrev lsV (x : Ty) : Array Value := #[.int .i64 x.1, .bool x.2.1, .string x.2.2]
structure BtC (w : World) (base m l : Nat) (T C : Value) (s : NSt) : Prop where
  hm : base ≤ m
  hl : base ≤ l
  blk : Blk w m 25 (btV T C)
  lst : Blk w l 45 (lsV s.last)
  hT : w.ownsRow base 45 3 T s.ts.length (s.ts.map tyCells).flatten
  hC : w.ownsRow base 42 2 C s.cs.length (s.cs.map chCells).flatten
  hTl : T.ownBlock ≠ some l
section
variable {w W W2 : World} {base m l : Nat} {T C T' C' : Value} {s : NSt}
theorem BtC.step (h : BtC W base m l T C s) (hb : Below W.heap.size W W2) : BtC W2 base m l T C s := ⟨h.hm, h.hl, h.blk.step hb, h.lst.step hb, own_step h.hT hb, own_step h.hC hb, h.hTl⟩
theorem BtC.alloc (h : BtC W base m l T C s) (o : Obj) : BtC (W.alloc o) base m l T C s := h.step ((Below.refl _ _).alloc (Nat.le_refl _) _)
theorem BtC.drewN (h : BtC W base m l T C s) (n : Nat) : BtC (W.drewN n) base m l T C s := h.step (below_drewN (Below.refl _ _) n)
theorem BtC.lt (h : BtC W base m l T C s) : base ≤ W.heap.size := Nat.le_of_lt (Nat.lt_of_le_of_lt h.hm h.blk.lt)
theorem BtC.low (h : BtC W base m l T C s) {a : Addr} (ha : a.block < base) (v : Value) : BtC (W.setCell a v) base m l T C s :=
  ⟨h.hm, h.hl, h.blk.far (by have := h.hm; omega) v, h.lst.far (by have := h.hl; omega) v, ownsRow_setCell_below h.hT ha v, ownsRow_setCell_below h.hC ha v, h.hTl⟩
theorem bt_app_T {x : Ty} {g cap : Nat} (h : BtC W base m l T C s) (hg : W.grownBy W2 T.ownBlock) (ho : W2.ownsRow base 45 3 (.slice (some ⟨g, 0, none⟩) (s.ts.length + 1) cap) (s.ts.length + 1) ((s.ts.map tyCells).flatten ++ tyCells x))
    {H : Nat} (hat : T.ownBlock = some g ∨ g = H) (hH : l < H) :
    BtC (W2.setCell ⟨m, 0, none⟩ (.slice (some ⟨g, 0, none⟩) (s.ts.length + 1) cap)) base m l (.slice (some ⟨g, 0, none⟩) (s.ts.length + 1) cap) C ⟨s.ts ++ [x], s.cs, s.last⟩ ∧ Below base W (W2.setCell ⟨m, 0, none⟩ (.slice (some ⟨g, 0, none⟩) (s.ts.length + 1) cap)) := by
  have hm := h.blk.grown hg (h.blk.own_ne h.hT (by decide))
  have hl := h.lst.grown hg h.hTl
  have hC := h.hC.kept hg (own_ne h.hC h.hT (by decide))
  have hml : m ≠ l := h.blk.ne h.lst (by decide)
  refine ⟨⟨h.hm, h.hl, hm.set 0 _, hl.far (Ne.symm hml) _, ?_, ownsRow_setCell_other hC (hm.own_ne hC (by decide)) _, ?_⟩, (below_app h.lt h.hT hg).setCell h.hm _⟩
  · have := ownsRow_setCell_other ho (a := ⟨m, 0, none⟩) (hm.own_ne ho (by decide)) (.slice (some ⟨g, 0, none⟩) (s.ts.length + 1) cap)
    simpa using this
  · intro e
    obtain rfl : g = l := by simpa [Value.ownBlock] using e
    rcases hat with h1 | h1
    · exact h.hTl h1
    · omega
theorem bt_app_C {c : Ch} (h : BtC W base m l T C s) (hg : W.grownBy W2 C.ownBlock) (ho : W2.ownsRow base 42 2 C' (s.cs.length + 1) ((s.cs.map chCells).flatten ++ chCells c)) :
    BtC (W2.setCell ⟨m, 2, none⟩ C') base m l T C' ⟨s.ts, s.cs ++ [c], s.last⟩ ∧ Below base W (W2.setCell ⟨m, 2, none⟩ C') := by
  have hm := h.blk.grown hg (h.blk.own_ne h.hC (by decide))
  have hl := h.lst.grown hg (h.lst.own_ne h.hC (by decide))
  have hT := h.hT.kept hg (own_ne h.hT h.hC (by decide))
  have hml : m ≠ l := h.blk.ne h.lst (by decide)
  refine ⟨⟨h.hm, h.hl, hm.set 2 C', hl.far (Ne.symm hml) _, ownsRow_setCell_other hT (hm.own_ne hT (by decide)) _, ?_, h.hTl⟩, (below_app h.lt h.hC hg).setCell h.hm _⟩
  have := ownsRow_setCell_other ho (a := ⟨m, 2, none⟩) (hm.own_ne ho (by decide)) C'
  simpa using this
theorem bt_last {x : Ty} (h : BtC W base m l T C s) :
    BtC (((W.setCell ⟨l, 0, none⟩ (.int .i64 x.1)).setCell ⟨l, 1, none⟩ (.bool x.2.1)).setCell ⟨l, 2, none⟩ (.string x.2.2)) base m l T C ⟨s.ts, s.cs, x⟩ ∧
      Below base W (((W.setCell ⟨l, 0, none⟩ (.int .i64 x.1)).setCell ⟨l, 1, none⟩ (.bool x.2.1)).setCell ⟨l, 2, none⟩ (.string x.2.2)) := by
  have hml : m ≠ l := h.blk.ne h.lst (by decide)
  have hCl := h.lst.own_ne h.hC (by decide)
  have b3 := ((h.lst.set 0 (.int .i64 x.1)).set 1 (.bool x.2.1)).set 2 (.string x.2.2)
  have m3 := ((h.blk.far (a := ⟨l, 0, none⟩) hml (.int .i64 x.1)).far (a := ⟨l, 1, none⟩) hml (.bool x.2.1)).far (a := ⟨l, 2, none⟩) hml (.string x.2.2)
  have t3 := ownsRow_setCell_other (ownsRow_setCell_other (ownsRow_setCell_other h.hT (a := ⟨l, 0, none⟩) h.hTl (.int .i64 x.1)) (a := ⟨l, 1, none⟩) h.hTl (.bool x.2.1)) (a := ⟨l, 2, none⟩) h.hTl (.string x.2.2)
  have c3 := ownsRow_setCell_other (ownsRow_setCell_other (ownsRow_setCell_other h.hC (a := ⟨l, 0, none⟩) hCl (.int .i64 x.1)) (a := ⟨l, 1, none⟩) hCl (.bool x.2.1)) (a := ⟨l, 2, none⟩) hCl (.string x.2.2)
  exact ⟨⟨h.hm, h.hl, m3, b3, t3, c3, h.hTl⟩, (((Below.refl _ _).setCell h.hl _).setCell h.hl _).setCell h.hl _⟩
theorem bt_tab (h : BtC w base m l T C s) (hn : ∀ t ∈ s.ts, t.2.2.size ≤ maxLen) :
    ∃ A capA A2 capC, T = .slice A s.ts.length capA ∧ C = .slice A2 s.cs.length capC ∧ TabAt w A A2 capA capC s.ts s.cs ∧ Above base A ∧ Above base A2 := by
  obtain ⟨A, cap, e1, h1, h2, hA⟩ := own_at (xss := s.ts.map tyCells) (by simpa using h.hT) (by intro xs hx; obtain ⟨t, _, rfl⟩ := List.mem_map.1 hx; rfl)
  obtain ⟨A2, cap2, e2, g1, g2, hA2⟩ := own_at (xss := s.cs.map chCells) (by simpa using h.hC) (by intro xs hx; obtain ⟨t, _, rfl⟩ := List.mem_map.1 hx; rfl)
  rw [List.length_map] at e1 e2 h1 g1
  exact ⟨A, cap, A2, cap2, e1, e2, ⟨hA, hA2, h1, h2, g1, g2, hn⟩, fun a e => (h.hT.lt a.block (by rw [e1, e]; rfl)).1, fun a e => (h.hC.lt a.block (by rw [e2, e]; rfl)).1⟩
end
end Go.Proofs.Ytbnajjfkkgmflaa
