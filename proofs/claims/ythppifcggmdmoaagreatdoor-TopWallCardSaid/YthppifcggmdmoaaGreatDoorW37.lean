/- Part 37 of the proof of TopWall: no condition; what its declarations say stands at each. -/
import Derived.Test.YthppifcggmdmoaaGreatDoorW35
import Derived.Test.YthppifcggmdmoaaGreatDoorW02
import Derived.Test.YthppifcggmdmoaaGreatDoorW04
import Derived.Deep.AppendLies
import Derived.Deep.RegionLaw
import Derived.Deep.RegionHeld3
import Derived.Deep.DrawnRows
namespace Go.Proofs.YthppifcggmdmoaaGreatDoor
set_option linter.unusedVariables false
structure NSt where
 (ts : List Ty) (cs : List Ch) (last : Ty)
def numTy : List Ty → Ty → Nat
 | [], _ => 0
 | y :: l, x => if x = y then 0 else numTy l x + 1
theorem numTy_le : ∀ (l : List Ty) (x : Ty), numTy l x ≤ l.length
 | [], _ => Nat.le_refl _
 | y :: l, x => by
  unfold numTy
  split
  ·omega
  ·have := numTy_le l x; simp; omega
theorem numTy_lt : ∀ {l : List Ty} {x : Ty}, numTy l x < l.length ↔ x ∈ l
 | [], x => by simp [numTy]
 | y :: l, x => by
  unfold numTy
  split
  ·rename_i h; subst h; simp
  ·rename_i h
   have := numTy_lt (l := l) (x := x)
   rw [List.length_cons, Nat.add_lt_add_iff_right, this, List.mem_cons]
   exact ⟨Or.inr, fun h1 => h1.resolve_left h⟩
theorem numTy_none {l : List Ty} {x : Ty} (h : ¬ x ∈ l) : numTy l x = l.length := by
 have h1 := numTy_le l x
 have h2 := mt numTy_lt.1 h
 omega
theorem numTy_at : ∀ (l : List Ty) (x : Ty) (k : Nat) (hk : k < l.length), (∀ j (hj : j < l.length), j < k → ¬ x = l[j]) → x = l[k] → numTy l x = k
 | [], _, k, hk, _, _ => by simp at hk
 | y :: l, x, 0, _, _, h => by unfold numTy; rw [if_pos (show x = y from h)]
 | y :: l, x, k + 1, hk, h1, h2 => by
  have h0 : ¬ x = y := h1 0 (by simp) (by omega)
  unfold numTy
  rw [if_neg h0, numTy_at l x k (by simpa using hk) (fun j hj hjk => h1 (j + 1) (by simpa using hj) (by omega)) h2]
def addTy (l : List Ty) (x : Ty) : List Ty := if numTy l x < l.length then l else l ++ [x]
def nStep (s : NSt) (at_ : Int) (x : Ty) : NSt := if x = s.last then s else ⟨addTy s.ts x, s.cs ++ [(at_, (numTy s.ts x : Int))], x⟩
def nBegin (x : Ty) : NSt := ⟨[x], [], x⟩
def nBuild (first : Ty) (l : List (Int × Ty)) : NSt := l.foldl (fun s c => nStep s c.1 c.2) (nBegin first)
def chTy (ts : List Ty) (c : Ch) : Int × Ty := (c.1, ts.getD c.2.toNat tyZero)
theorem nStep_same {s : NSt} {at_ : Int} {x : Ty} (h : x = s.last) : nStep s at_ x = s := by rw [nStep, if_pos h]
theorem nStep_other {s : NSt} {at_ : Int} {x : Ty} (h : ¬ x = s.last) : nStep s at_ x = ⟨addTy s.ts x, s.cs ++ [(at_, (numTy s.ts x : Int))], x⟩ := by rw [nStep, if_neg h]
theorem addTy_old {l : List Ty} {x : Ty} (h : x ∈ l) : addTy l x = l := by rw [addTy, if_pos (numTy_lt.2 h)]
theorem addTy_new {l : List Ty} {x : Ty} (h : ¬ x ∈ l) : addTy l x = l ++ [x] := by rw [addTy, if_neg (mt numTy_lt.1 h)]
theorem addTy_len (l : List Ty) (x : Ty) : (addTy l x).length ≤ l.length + 1 := by
 unfold addTy; split <;> simp
theorem mem_addTy {l : List Ty} {x y : Ty} : y ∈ addTy l x ↔ y ∈ l ∨ y = x := by
 unfold addTy
 split
 ·rename_i h; rw [numTy_lt] at h; exact ⟨Or.inl, fun h1 => h1.elim id (fun e => e ▸ h)⟩
 ·simp
theorem nBuild_all (p : Ty → Prop) (first : Ty) (l : List (Int × Ty)) (h0 : p first) (h : ∀ c ∈ l, p c.2) : ∀ t ∈ (nBuild first l).ts, p t := by
 suffices ∀ (l : List (Int × Ty)) (s : NSt), (∀ t ∈ s.ts, p t) → (∀ c ∈ l, p c.2) → ∀ t ∈ (l.foldl (fun s c => nStep s c.1 c.2) s).ts, p t from
  this l (nBegin first) (by simp [nBegin, h0]) h
 intro l
 induction l with
 | nil => intro s hs _; exact hs
 | cons c r ih =>
  intro s hs hc
  refine ih (nStep s c.1 c.2) (fun t ht => ?_) (fun d hd => hc d (by simp [hd]))
  by_cases e : c.2 = s.last
  ·rw [nStep_same e] at ht; exact hs t ht
  ·rw [nStep_other e] at ht
   rcases mem_addTy.1 ht with ht | ht
   ·exact hs t ht
   ·rw [ht]; exact hc c (by simp)
theorem nBuild_len (first : Ty) (l : List (Int × Ty)) : (nBuild first l).ts.length ≤ l.length + 1 ∧ (nBuild first l).cs.length ≤ l.length := by
 suffices ∀ (l : List (Int × Ty)) (s : NSt), (l.foldl (fun s c => nStep s c.1 c.2) s).ts.length ≤ s.ts.length + l.length ∧ (l.foldl (fun s c => nStep s c.1 c.2) s).cs.length ≤ s.cs.length + l.length by
  have h := this l (nBegin first)
  simp [nBegin] at h
  unfold nBuild nBegin
  omega
 intro l
 induction l with
 | nil => intro s; simp
 | cons c r ih =>
  intro s
  have h := ih (nStep s c.1 c.2)
  have h2 : (nStep s c.1 c.2).ts.length ≤ s.ts.length + 1 ∧ (nStep s c.1 c.2).cs.length ≤ s.cs.length + 1 := by
   unfold nStep
   split
   ·simp
   ·exact ⟨addTy_len s.ts c.2, by simp⟩
  simp only [List.foldl_cons, List.length_cons]
  omega
end Go.Proofs.YthppifcggmdmoaaGreatDoor
namespace Go.Proofs.YthppifcggmdmoaaGreatDoor
open Go.RowKit
set_option linter.unusedVariables false
attribute [local go_sem ↓] Go.wp_at_zero Go.wp_at_succ
abbrev tyV (x : Ty) : Value := .agg #[.int .i64 x.1, .bool x.2.1, .string x.2.2]
def ixTy (l : List Ty) (x : Ty) : Int := if numTy l x < l.length then (numTy l x : Int) else -1
theorem ty_ne {x y : Ty} (h : ¬ x = y) : (x.1 == y.1) = false ∨ ((x.1 == y.1) = true ∧ (x.2.1 == y.2.1) = false) ∨ ((x.1 == y.1) = true ∧ (x.2.1 == y.2.1) = true ∧ (x.2.2.toList == y.2.2.toList) = false) := by
 cases h1 : (x.1 == y.1) with
 | false => exact Or.inl rfl
 | true =>
  refine Or.inr ?_
  cases h2 : (x.2.1 == y.2.1) with
  | false => exact Or.inl ⟨rfl, rfl⟩
  | true =>
   refine Or.inr ⟨rfl, rfl, ?_⟩
   cases h3 : (x.2.2.toList == y.2.2.toList) with
   | false => rfl
   | true =>
    have h4 := beq_iff_eq.1 h3
    rw [ByteArray.toList_eq, ByteArray.toList_eq] at h4
    exact absurd (Prod.ext (by simpa using h1) (Prod.ext (by simpa using h2) (ByteArray.ext (Array.toList_inj.1 h4)))) h
set_option maxRecDepth 100000 in
set_option maxHeartbeats 1000000 in
theorem run_eq_ty (x y : Ty) (w : World) : (Op.equalIn 10000 56 (tyV x) (tyV y)).run Tryz.prog w = .ok (decide (x = y)) w := by
 by_cases h : x = y
 ·subst h
  go_simp
 ·rw [decide_eq_false h]
  rcases ty_ne h with h1 | ⟨h1, h2⟩ | ⟨h1, h2, h3⟩
  ·go_simp
  ·go_simp
  ·go_simp
theorem ixTy_at {l : List Ty} {x : Ty} {k : Nat} (hk : k < l.length) (h : ∀ j (hj : j < l.length), j < k → ¬ x = l[j]) (e : x = l[k]) : ixTy l x = (k : Int) := by
 have h1 := numTy_at l x k hk h e
 rw [ixTy, h1, if_pos hk]
theorem ixTy_none {l : List Ty} {x : Ty} (h : ∀ j (hj : j < l.length), ¬ x = l[j]) : ixTy l x = -1 := by
 have : ¬ x ∈ l := fun hm => by obtain ⟨j, hj, e⟩ := List.mem_iff_getElem.1 hm; exact h j hj e.symm
 rw [ixTy, if_neg (mt numTy_lt.1 this)]
set_option maxRecDepth 100000 in
set_option maxHeartbeats 1000000 in
theorem s_IndexTy (A : Option Addr) (cap : Nat) (ts : List Ty) (x : Ty) (w : World) (hA : SlAt w w.heap.size 3 A (ts.map tyCells)) (h1 : ts.length ≤ cap) (m1 : cap ≤ maxLen) :
  Calls Tryz.prog 131 #[.slice A ts.length cap, tyV x] w fun e w' => e = .returned (.int .i64 (ixTy ts x)) ∧ Below w.heap.size w w' := by
 unfold maxLen at m1
 have X1 := Lib.hid (TK.box w #[.int .i64 x.1, .bool x.2.1, .string x.2.2] 56)
 go_enter Tryz.func131, Tryz.ntmps131
 go_wp2_with fail
 go_loopw [8] (fun i wr => ∃ k : Nat, k ≤ ts.length ∧ i = .int .i64 k ∧ (∀ j (hj : j < ts.length), j < k → ¬ x = ts[j]) ∧ TK w wr #[.int .i64 x.1, .bool x.2.1, .string x.2.2]) (fun i _ => ts.length - (intOf i).toNat)
 case atStart => exact ⟨0, by omega, rfl, fun j _ h => absurd h (by omega), X1.out⟩
 case round =>
  obtain ⟨k, hk, rfl, hn, hT⟩ := hrel
  have HT := Lib.hid hT
  have HN := Lib.hid hn
  clear hn X1
  by_cases hlt : k < ts.length
  ·obtain ⟨b, o, rfl, hb, c0, c1, c2⟩ := ty_at (hA.below hT.2.2) hlt
   have hcs := hT.1
   have hi1 : (0 : Int) ≤ (k : Int) := by omega
   have hi2 : (k : Int) < (ts.length : Int) := by omega
   obtain ⟨y, hy⟩ : ∃ y, ts[k] = y := ⟨_, rfl⟩
   rw [hy] at c0 c1 c2
   clear hT
   by_cases he : x = y
   ·have HE := Lib.hid (ixTy_at hlt HN.out (he.trans hy.symm))
    subst he
    clear hy
    go_wp2_with fail
    go_quiet (fail)
    go_wp2_with fail
    go_ret
    exact ⟨ret_int HE.out.symm, (HT.out.drewN _).2.2⟩
   ·have HE := Lib.hid (fun j (hj : j < ts.length) (h : j < k + 1) => (show ¬ x = ts[j] from fun e => if h2 : j < k then HN.out j hj h2 e else (by obtain rfl : j = k := (by omega); exact he (e.trans hy))))
    clear hy
    rcases ty_ne he with h1 | ⟨h1, h2⟩ | ⟨h1, h2, h3⟩
    all_goals
     clear he
     go_wp2_with fail
     go_quiet (fail)
     go_wp2_with fail
     exact ⟨⟨k + 1, by omega, by go_num, HE.out, HT.out.drewN _⟩, by simp [intOf]; omega⟩
  ·obtain rfl : k = ts.length := by omega
   have HE := Lib.hid (ixTy_none (fun j hj => HN.out j hj hj))
   clear hT
   go_wp2_with fail
   go_ret
   exact ⟨ret_int HE.out.symm, HT.out.2.2⟩
end Go.Proofs.YthppifcggmdmoaaGreatDoor
namespace Go.Proofs.YthppifcggmdmoaaGreatDoor
open Go.RowKit
set_option linter.unusedVariables false
attribute [local go_sem ↓] Go.wp_at_zero Go.wp_at_succ
abbrev mkV (T C : Value) (x : Ty) : Array Value := #[T, .int .i64 0, C, .int .i64 x.1, .bool x.2.1, .string x.2.2]
structure MkC (w : World) (base m : Nat) (T C : Value) (s : NSt) : Prop where
 hb : base ≤ m
 blk : Blk w m 112 (mkV T C s.last)
 hT : w.ownsRow base 56 3 T s.ts.length (s.ts.map tyCells).flatten
 hC : w.ownsRow base 44 2 C s.cs.length (s.cs.map chCells).flatten
theorem info_Type : (Tryz.prog.info? 56).map (fun i => (i.zero, i.size, i.bytes)) = some (some (.agg #[.int .i64 0, .bool false, .string ⟨#[]⟩]), 3, 32) := by kernel_rfl
theorem info_Change : (Tryz.prog.info? 44).map (fun i => (i.zero, i.size, i.bytes)) = some (some (.agg #[.int .i64 0, .int .i64 0]), 2, 16) := by kernel_rfl
section
variable {w W W2 : World} {base m : Nat} {T C T' C' : Value} {s : NSt}
theorem MkC.step (h : MkC W base m T C s) (hb : Below W.heap.size W W2) : MkC W2 base m T C s := ⟨h.hb, h.blk.step hb, own_step h.hT hb, own_step h.hC hb⟩
theorem MkC.alloc (h : MkC W base m T C s) (o : Obj) : MkC (W.alloc o) base m T C s := h.step ((Below.refl _ _).alloc (Nat.le_refl _) _)
theorem MkC.drew (h : MkC W base m T C s) : MkC W.drew base m T C s := h.step (Below.refl _ _).drew
theorem MkC.drewN (h : MkC W base m T C s) (n : Nat) : MkC (W.drewN n) base m T C s := h.step (below_drewN (Below.refl _ _) n)
theorem MkC.lt (h : MkC W base m T C s) : base ≤ W.heap.size := Nat.le_of_lt (Nat.lt_of_le_of_lt h.hb h.blk.lt)
theorem mk_app_T {x : Ty} (h : MkC W base m T C s) (hg : W.grownBy W2 T.ownBlock) (ho : W2.ownsRow base 56 3 T' (s.ts.length + 1) ((s.ts.map tyCells).flatten ++ tyCells x)) :
  MkC (W2.setCell ⟨m, 0, none⟩ T') base m T' C ⟨s.ts ++ [x], s.cs, s.last⟩ ∧ Below base W (W2.setCell ⟨m, 0, none⟩ T') := by
 have hm := h.blk.grown hg (h.blk.own_ne h.hT (by decide))
 have hC := h.hC.kept hg (own_ne h.hC h.hT (by decide))
 refine ⟨⟨h.hb, hm.set 0 T', ?_, ownsRow_setCell_other hC (hm.own_ne hC (by decide)) _⟩, (below_app h.lt h.hT hg).setCell h.hb _⟩
 have := ownsRow_setCell_other ho (a := ⟨m, 0, none⟩) (hm.own_ne ho (by decide)) T'
 simpa using this
theorem mk_app_C {c : Ch} (h : MkC W base m T C s) (hg : W.grownBy W2 C.ownBlock) (ho : W2.ownsRow base 44 2 C' (s.cs.length + 1) ((s.cs.map chCells).flatten ++ chCells c)) :
  MkC (W2.setCell ⟨m, 2, none⟩ C') base m T C' ⟨s.ts, s.cs ++ [c], s.last⟩ ∧ Below base W (W2.setCell ⟨m, 2, none⟩ C') := by
 have hm := h.blk.grown hg (h.blk.own_ne h.hC (by decide))
 have hT := h.hT.kept hg (own_ne h.hT h.hC (by decide))
 refine ⟨⟨h.hb, hm.set 2 C', ownsRow_setCell_other hT (hm.own_ne hT (by decide)) _, ?_⟩, (below_app h.lt h.hC hg).setCell h.hb _⟩
 have := ownsRow_setCell_other ho (a := ⟨m, 2, none⟩) (hm.own_ne ho (by decide)) C'
 simpa using this
theorem mk_last {x : Ty} (h : MkC W base m T C s) :
  MkC (((W.setCell ⟨m, 3, none⟩ (.int .i64 x.1)).setCell ⟨m, 4, none⟩ (.bool x.2.1)).setCell ⟨m, 5, none⟩ (.string x.2.2)) base m T C ⟨s.ts, s.cs, x⟩ ∧
   Below base W (((W.setCell ⟨m, 3, none⟩ (.int .i64 x.1)).setCell ⟨m, 4, none⟩ (.bool x.2.1)).setCell ⟨m, 5, none⟩ (.string x.2.2)) := by
 have b1 := h.blk.set 3 (.int .i64 x.1)
 have b2 := b1.set 4 (.bool x.2.1)
 have b3 := b2.set 5 (.string x.2.2)
 have t1 := ownsRow_setCell_other h.hT (a := ⟨m, 3, none⟩) (h.blk.own_ne h.hT (by decide)) (.int .i64 x.1)
 have t2 := ownsRow_setCell_other t1 (a := ⟨m, 4, none⟩) (b1.own_ne t1 (by decide)) (.bool x.2.1)
 have t3 := ownsRow_setCell_other t2 (a := ⟨m, 5, none⟩) (b2.own_ne t2 (by decide)) (.string x.2.2)
 have c1 := ownsRow_setCell_other h.hC (a := ⟨m, 3, none⟩) (h.blk.own_ne h.hC (by decide)) (.int .i64 x.1)
 have c2 := ownsRow_setCell_other c1 (a := ⟨m, 4, none⟩) (b1.own_ne c1 (by decide)) (.bool x.2.1)
 have c3 := ownsRow_setCell_other c2 (a := ⟨m, 5, none⟩) (b2.own_ne c2 (by decide)) (.string x.2.2)
 exact ⟨⟨h.hb, b3, t3, c3⟩, (((Below.refl _ _).setCell h.hb _).setCell h.hb _).setCell h.hb _⟩
end
end Go.Proofs.YthppifcggmdmoaaGreatDoor
namespace Go.Proofs.YthppifcggmdmoaaGreatDoor
open Go.RowKit
set_option linter.unusedVariables false
attribute [local go_sem ↓] Go.wp_at_zero Go.wp_at_succ
def MS (w W : World) (base m : Nat) (T C : Value) (s : NSt) (cs : Array Value) : Prop := TK w W cs ∧ MkC W base m T C s
abbrev MQ (w W : World) (base m : Nat) (T C : Value) (s : NSt) (cs : Array Value) : Prop :=
 (∀ i, W.cell? ⟨w.heap.size, i, none⟩ = cs[i]?) ∧ (∀ i, W.cell? ⟨m, i, none⟩ = (mkV T C s.last)[i]?) ∧ MS w W base m T C s cs
theorem MQ.mk {w W : World} {base m : Nat} {T C : Value} {s : NSt} {cs : Array Value} (h : TK w W cs) (h2 : MkC W base m T C s) : MQ w W base m T C s cs := ⟨h.1, h2.blk.cell, h, h2⟩
theorem MQ.step {w W W2 : World} {base m : Nat} {T C : Value} {s : NSt} {cs : Array Value} (h : MQ w W base m T C s cs) (hb : Below W.heap.size W W2) : MQ w W2 base m T C s cs := MQ.mk (h.2.2.1.step hb) (h.2.2.2.step hb)
theorem MQ.drew {w W : World} {base m : Nat} {T C : Value} {s : NSt} {cs : Array Value} (h : MQ w W base m T C s cs) : MQ w W.drew base m T C s cs := h.step (Below.refl _ _).drew
def NumPost (base m : Nat) (T C : Value) (s : NSt) (x : Ty) (w : World) (e : Ending) (w' : World) : Prop :=
 ∃ T', e = .returned (.int .i64 (numTy s.ts x : Int)) ∧ MkC w' base m T' C ⟨addTy s.ts x, s.cs, s.last⟩ ∧ Below base w w' ∧ ∀ k, k < w.heap.size → k ≠ m → T.ownBlock ≠ some k → w'.heap[k]? = w.heap[k]?
set_option maxRecDepth 100000 in
set_option maxHeartbeats 2000000 in
theorem m_number_old (base m : Nat) (T C : Value) (s : NSt) (x : Ty) (w : World) (h : MkC w base m T C s) (hx : x ∈ s.ts) :
  Calls Tryz.prog 87 #[.pointer (some ⟨m, 0, none⟩), tyV x] w (NumPost base m T C s x w) := by
 obtain ⟨A, cap, rfl, h1, h2, hA⟩ := own_at (xss := s.ts.map tyCells) (by simpa using h.hT) (by intro xs hx; obtain ⟨t, _, rfl⟩ := List.mem_map.1 hx; rfl)
 rw [List.length_map] at *
 have hS := MQ.mk (TK.box w #[.int .i64 x.1, .bool x.2.1, .string x.2.2] 56) (h.alloc (.cells #[.int .i64 x.1, .bool x.2.1, .string x.2.2] 56))
 have hr : ixTy s.ts x = (numTy s.ts x : Int) := by rw [ixTy, if_pos (numTy_lt.2 hx)]
 have hE := addTy_old hx
 have hlt := numTy_lt.2 hx
 obtain ⟨r, hrr⟩ : ∃ r, numTy s.ts x = r := ⟨_, rfl⟩
 unfold NumPost
 rw [hrr] at hr hlt ⊢
 rw [hE]
 have hlt' : ¬ ((r : Int) < 0) := by omega
 have HA := Lib.hid hA
 have HB := Lib.hid h
 have HR := Lib.hid hr
 clear hE hA hr h
 go_enter Tryz.func87, Tryz.ntmps87
 go_wp2_with fail
 go_region_held3 (fun w' => (∀ i, w'.cell? ⟨w.heap.size, i, none⟩ = (#[.int .i64 x.1, .bool x.2.1, .string x.2.2] : Array Value)[i]?) ∧ (∀ i, w'.cell? ⟨m, i, none⟩ = (mkV (.slice A s.ts.length cap) C s.last)[i]?) ∧ MS w w' base m (.slice A s.ts.length cap) C s #[.int .i64 x.1, .bool x.2.1, .string x.2.2])
  (first | exact MQ.drew hS | assumption | exact MQ.step (by assumption) (by assumption))
  (first | (go_at_call 131; refine (s_IndexTy A cap s.ts x _ ?_ h1 h2).mono ?_; (exact (HA.out.below ((Below.refl _ _).alloc (Nat.le_refl _) _).drew).more (by simp)); rintro e w5 ⟨rfl, hb5⟩))
 rename_i hH
 rw [HR.out]
 go_wp2_with fail
 go_ret
 exact ⟨_, rfl, hH.2.2.2, hH.2.2.1.2.2.mono HB.out.lt, fun k hk _ _ => hH.2.2.1.2.2.block k hk⟩
set_option maxRecDepth 100000 in
set_option maxHeartbeats 2000000 in
theorem m_number_new (base m : Nat) (T C : Value) (s : NSt) (x : Ty) (w : World) (h : MkC w base m T C s) (hx : ¬ x ∈ s.ts) (hl : s.ts.length ≤ 10000000) :
  Calls Tryz.prog 87 #[.pointer (some ⟨m, 0, none⟩), tyV x] w (NumPost base m T C s x w) := by
 obtain ⟨i0, hi0, hz0, hz1, hz2⟩ := info_parts info_Type
 obtain ⟨A, cap, rfl, h1, h2, hA⟩ := own_at (xss := s.ts.map tyCells) (by simpa using h.hT) (by intro xs hx; obtain ⟨t, _, rfl⟩ := List.mem_map.1 hx; rfl)
 rw [List.length_map] at *
 have hS := MQ.mk (TK.box w #[.int .i64 x.1, .bool x.2.1, .string x.2.2] 56) (h.alloc (.cells #[.int .i64 x.1, .bool x.2.1, .string x.2.2] 56))
 have hr : ixTy s.ts x = -1 := by rw [ixTy, if_neg (mt numTy_lt.1 hx)]
 have hE := addTy_new hx
 unfold NumPost
 rw [numTy_none hx, hE]
 have HA := Lib.hid hA
 have HB := Lib.hid h
 have HR := Lib.hid hr
 clear hE hA hr h
 go_enter Tryz.func87, Tryz.ntmps87
 go_wp2_with fail
 go_region_held3 (fun w' => (∀ i, w'.cell? ⟨w.heap.size, i, none⟩ = (#[.int .i64 x.1, .bool x.2.1, .string x.2.2] : Array Value)[i]?) ∧ (∀ i, w'.cell? ⟨m, i, none⟩ = (mkV (.slice A s.ts.length cap) C s.last)[i]?) ∧ MS w w' base m (.slice A s.ts.length cap) C s #[.int .i64 x.1, .bool x.2.1, .string x.2.2])
  (first | exact MQ.drew hS | assumption | exact MQ.step (by assumption) (by assumption))
  (first | (go_at_call 131; refine (s_IndexTy A cap s.ts x _ ?_ h1 h2).mono ?_; (exact (HA.out.below ((Below.refl _ _).alloc (Nat.le_refl _) _).drew).more (by simp)); rintro e w5 ⟨rfl, hb5⟩))
 rename_i hH
 rw [HR.out]
 have x0 := hH.1
 have x1 := hH.2.1
 have HM := Lib.hid hH.2.2
 have hmz := HM.out.2.blk.lt
 clear hH hS hb5
 go_wp2_with fail
 go_region_law ((refine step_append_lies _ (by rfl) _ _ _ (by rfl) base 56 i0 _ 3 32 Tryz.underlying34 hi0 hz0 hz1 hz2 rfl (by omega) (.slice A s.ts.length cap) s.ts.length _ (by rfl) (World.ownsRow.alloc HM.out.2.hT _) ⟨w5.heap.size, 0, none⟩ 1 1 (tyCells x) (by rfl) (by rfl) (World.news_of_block (cs := (tyCells x).toArray) (t := 56) (fr := (0, 0)) (heap_alloc_new w5 _)) (by simp [Value.oneCell', tyCells]) (by omega) (by unfold maxLen; omega) (by omega) (by have := HM.out.2.lt; simp; omega) (w5.heap.size + 1) (by simp) ?_; intro gg cap2 w6 hown1 hgrow hat hlt; have hm6 := Blk.grown' hgrow (HM.out.2.blk.alloc _) (HM.out.2.blk.own_ne HM.out.2.hT (by decide)); have y0 := hm6.cell 0; have y1 := hm6.frz 0; clear hm6))
 all_goals
  have K := mk_app_T (MkC.drew (HM.out.2.alloc (.cells #[.int .i64 x.1, .bool x.2.1, .string x.2.2] 56))) hgrow hown1
  clear y0 y1
  go_wp2_with fail
  go_ret
  refine ⟨_, rfl, K.1, (HM.out.1.2.2.mono HB.out.lt).trans ((((Below.refl _ _).alloc HM.out.2.lt _).drew).trans K.2), fun k hk hkm hkT => ?_⟩
  have hk5 : k < w5.heap.size := Nat.lt_of_lt_of_le hk HM.out.1.2.2.size
  refine (Below.heap_setCell _ _ _ _ hkm).trans ((hgrow.block k ?_ (Ne.symm hkT)).trans ((Below.heap_alloc w5 _ k hk5).trans (HM.out.1.2.2.block k hk)))
  exact Nat.lt_of_lt_of_le hk5 (by simp)
theorem m_number (base m : Nat) (T C : Value) (s : NSt) (x : Ty) (w : World) (h : MkC w base m T C s) (hl : s.ts.length ≤ 10000000) :
  Calls Tryz.prog 87 #[.pointer (some ⟨m, 0, none⟩), tyV x] w (NumPost base m T C s x w) := by
 rcases Classical.em (x ∈ s.ts) with hx | hx
 ·exact m_number_old base m T C s x w h hx
 ·exact m_number_new base m T C s x w h hx hl
end Go.Proofs.YthppifcggmdmoaaGreatDoor
namespace Go.Proofs.YthppifcggmdmoaaGreatDoor
open Go.RowKit
set_option linter.unusedVariables false
attribute [local go_sem ↓] Go.wp_at_zero Go.wp_at_succ
def ChgPost (base m : Nat) (T C : Value) (s : NSt) (at_ : Int) (x : Ty) (w : World) (e : Ending) (w' : World) : Prop :=
 ∃ T' C', e = .returned (.tuple #[]) ∧ MkC w' base m T' C' (nStep s at_ x) ∧ Below base w w' ∧ ∀ k, k < w.heap.size → k ≠ m → T.ownBlock ≠ some k → C.ownBlock ≠ some k → w'.heap[k]? = w.heap[k]?
set_option maxRecDepth 100000 in
set_option maxHeartbeats 2000000 in
theorem m_Change_same (base m : Nat) (T C : Value) (s : NSt) (at_ : Int) (x : Ty) (w : World) (h : MkC w base m T C s) (hx : x = s.last) :
  Calls Tryz.prog 50 #[.pointer (some ⟨m, 0, none⟩), .int .i64 at_, tyV x] w (ChgPost base m T C s at_ x w) := by
 have HE := Lib.hid (nStep_same (at_ := at_) hx)
 have hM := h.alloc (.cells #[.int .i64 x.1, .bool x.2.1, .string x.2.2] 56)
 have x1 := hM.blk.cell
 have HM := Lib.hid hM
 rw [← hx] at x1
 have HB := Lib.hid ((Below.refl base w).alloc h.lt (.cells #[.int .i64 x.1, .bool x.2.1, .string x.2.2] 56))
 clear h hx hM
 go_enter Tryz.func50, Tryz.ntmps50
 go_wp2_with fail
 go_quiet (fail)
 go_wp2_with fail
 go_end0
 exact ⟨T, C, rfl, by rw [HE.out]; exact HM.out.drewN _, below_drewN HB.out _, fun k hk _ _ _ => Below.heap_alloc w _ k hk⟩
set_option maxRecDepth 100000 in
set_option maxHeartbeats 4000000 in
theorem m_Change_other (base m : Nat) (T C : Value) (s : NSt) (at_ : Int) (x : Ty) (w : World) (h : MkC w base m T C s) (hx : ¬ x = s.last) (hl : s.ts.length ≤ 10000000) (hl2 : s.cs.length ≤ 10000000) :
  Calls Tryz.prog 50 #[.pointer (some ⟨m, 0, none⟩), .int .i64 at_, tyV x] w (ChgPost base m T C s at_ x w) := by
 obtain ⟨i0, hi0, hz0, hz1, hz2⟩ := info_parts info_Change
 have HE := Lib.hid (nStep_other (at_ := at_) hx)
 have hM := h.alloc (.cells #[.int .i64 x.1, .bool x.2.1, .string x.2.2] 56)
 have x1 := hM.blk.cell
 have hmz := h.blk.lt
 have HX := Blk.new w #[.int .i64 x.1, .bool x.2.1, .string x.2.2] 56
 have x2 := HX.cell
 have HM := Lib.hid hM
 have heq := run_eq_ty x s.last
 rw [decide_eq_false hx] at heq
 have HH := Lib.hid h
 clear h hx hM
 go_enter Tryz.func50, Tryz.ntmps50
 go_wp2_with fail
 go_quiet (fail)
 go_wp2_with fail
 have HB := Lib.hid (below_drewN ((Below.refl base w).alloc HH.out.lt (.cells #[.int .i64 x.1, .bool x.2.1, .string x.2.2] 56)) nq)
 have HM0 := Lib.hid (HM.out.drewN nq)
 have HX0 := Lib.hid (HX.drewN nq)
 have HK0 := Lib.hid (fun k (hk : k < w.heap.size) => (show ((w.alloc (.cells #[.int .i64 x.1, .bool x.2.1, .string x.2.2] 56)).drewN nq).heap[k]? = w.heap[k]? from Below.heap_alloc w _ k hk))
 clear x1 x2 HX HM heq
 revert HB HM0 HX0 HK0
 generalize (w.alloc (.cells #[.int .i64 x.1, .bool x.2.1, .string x.2.2] 56)).drewN nq = W0
 intro HB HM0 HX0 HK0
 have x1 := HM0.out.blk.cell
 have hmz0 := HM0.out.blk.lt
 have x2 := HX0.out.cell
 have hxz := HX0.out.lt
 go_region_law (first
  | ((refine step_append_lies _ (by rfl) _ _ _ (by rfl) base 44 i0 _ 2 16 Tryz.underlying35 hi0 hz0 hz1 hz2 rfl (by omega) C s.cs.length _ (by rfl) (World.ownsRow.alloc hM5.hC _) ⟨w5.heap.size, 0, none⟩ 1 1 (chCells (at_, (numTy s.ts x : Int))) (by rfl) (by rfl) (World.news_of_block (cs := (chCells (at_, (numTy s.ts x : Int))).toArray) (t := 44) (fr := (0, 0)) (heap_alloc_new w5 _)) (by simp [Value.oneCell', chCells]) (by omega) (by unfold maxLen; omega) (by omega) (by have := hM5.lt; simp; omega) (w5.heap.size + 1) (by simp) ?_; intro gg cap2 w6 hown1 hgrow hat hlt; have hm6 := Blk.grown' hgrow (hM5.blk.alloc _) (hM5.blk.own_ne hM5.hC (by decide)); have y0 := hm6.cell 2; have y1 := hm6.frz 2; clear hm6))
  | (go_simp; go_at_call 87; refine (m_number base m T C s x _ (MkC.drew HM0.out) hl).mono ?_; rintro e w5 ⟨T', rfl, hM5, hB5, hK5⟩; have z0 := hM5.blk.cell 2; have z1 := hM5.blk.lt))
 all_goals
  have K := mk_app_C (c := (at_, (numTy s.ts x : Int))) (hM5.alloc (.cells #[.int .i64 at_, .int .i64 (numTy s.ts x : Int)] 44)) hgrow hown1
  have hTn : T.ownBlock ≠ some w.heap.size := fun e => absurd (HH.out.hT.lt _ e).2 (by omega)
  have hCn : C.ownBlock ≠ some w.heap.size := fun e => absurd (HH.out.hC.lt _ e).2 (by omega)
  have hX5 : Blk w5 w.heap.size 56 #[.int .i64 x.1, .bool x.2.1, .string x.2.2] := (hK5 _ hxz (by omega) hTn).trans HX0.out
  have hX6 := (Blk.grown' hgrow (hX5.alloc _) hCn).far (a := ⟨m, 2, none⟩) (by simp; omega) (.slice (some ⟨gg, 0, none⟩) (s.cs.length + 1) cap2)
  have hBB := Lib.hid ((((HB.out.drew.trans hB5).alloc hM5.lt (.cells #[.int .i64 at_, .int .i64 (numTy s.ts x : Int)] 44))).trans K.2)
  have hK7 := Lib.hid (fun k (hk : k < w.heap.size) (h1 : k ≠ m) (h2 : T.ownBlock ≠ some k) (h3 : C.ownBlock ≠ some k) => (Below.heap_setCell w6 ⟨m, 2, none⟩ (.slice (some ⟨gg, 0, none⟩) (s.cs.length + 1) cap2) k h1).trans ((hgrow.block k (Nat.lt_of_lt_of_le (Nat.lt_of_lt_of_le (show k < W0.drew.heap.size from Nat.lt_trans hk hxz) hB5.size) (by simp)) (Ne.symm h3)).trans ((Below.heap_alloc w5 _ k (Nat.lt_of_lt_of_le (show k < W0.drew.heap.size from Nat.lt_trans hk hxz) hB5.size)).trans ((hK5 k (Nat.lt_trans hk hxz) h1 h2).trans (HK0.out k hk)))))
  have K1 := Lib.hid K.1
  clear K y0 y1 z0 z1 x1 x2 hown1 hgrow hat hM5 hK5 hB5 hX5
  revert hK7 hBB K1 hX6
  generalize w6.setCell ⟨m, 2, none⟩ (.slice (some ⟨gg, 0, none⟩) (s.cs.length + 1) cap2) = W1
  intro hX6 hBB hK7 K1
  have x1 := hX6.cell
  have y1 := K1.out.blk.cell
  have y2 := K1.out.blk.frz
  go_wp2_with fail
  go_end0
  have L := mk_last (x := x) K1.out
  exact ⟨_, _, rfl, by rw [HE.out]; exact L.1, hBB.out.trans L.2, fun k hk h1 h2 h3 => (Below.heap_setCell _ _ _ _ h1).trans ((Below.heap_setCell _ _ _ _ h1).trans ((Below.heap_setCell _ _ _ _ h1).trans (hK7.out k hk h1 h2 h3)))⟩
theorem m_Change (base m : Nat) (T C : Value) (s : NSt) (at_ : Int) (x : Ty) (w : World) (h : MkC w base m T C s) (hl : s.ts.length ≤ 10000000) (hl2 : s.cs.length ≤ 10000000) :
  Calls Tryz.prog 50 #[.pointer (some ⟨m, 0, none⟩), .int .i64 at_, tyV x] w (ChgPost base m T C s at_ x w) := by
 rcases Classical.em (x = s.last) with hx | hx
 ·exact m_Change_same base m T C s at_ x w h hx
 ·exact m_Change_other base m T C s at_ x w h hx hl hl2
end Go.Proofs.YthppifcggmdmoaaGreatDoor
namespace Go.Proofs.YthppifcggmdmoaaGreatDoor
open Go.RowKit
set_option linter.unusedVariables false
attribute [local go_sem ↓] Go.wp_at_zero Go.wp_at_succ
def BegPost (x : Ty) (w : World) (e : Ending) (w' : World) : Prop :=
 ∃ m T, e = .returned (.pointer (some ⟨m, 0, none⟩)) ∧ MkC w' w.heap.size m T (.slice none 0 0) (nBegin x) ∧ Below w.heap.size w w'
set_option maxRecDepth 100000 in
theorem m_Begin (x : Ty) (w : World) : Calls Tryz.prog 47 #[tyV x] w (BegPost x w) := by
 go_enter Tryz.func47, Tryz.ntmps47
 go_wp2_with fail
 go_ret
 refine ⟨_, .slice (some ⟨w.heap.size + 1, 0, none⟩) 1 1, rfl, ⟨?_, ?_, ?_, World.ownsRow_nil _ _ _ _⟩, (by repeat (first | exact Below.refl _ _ | assumption | apply Below.drew | apply below_drewN | (refine Below.alloc ?_ (by simp; try omega) _) | (refine Below.setCell ?_ (by simp; try omega) _)))⟩
 ·omega
 ·exact Blk.new' _ _ _ (by simp)
 ·refine ⟨by simp [nBegin, tyCells], Or.inr ⟨w.heap.size + 1, 1, _, rfl, by omega, Blk.alloc (Blk.new' _ _ _ (by simp)) _, by simp [nBegin], by unfold maxLen; omega, by simp, by simp [nBegin, tyCells]⟩⟩
def Above (B : Nat) (A : Option Addr) : Prop := ∀ a, A = some a → B ≤ a.block
theorem Above.mono {B B' : Nat} {A : Option Addr} (h : Above B A) (hb : B' ≤ B) : Above B' A := fun a e => Nat.le_trans hb (h a e)
theorem SlAt.far {W : World} {B size g i : Nat} {A : Option Addr} {xs : List (List Value)} (h : SlAt W W.heap.size size A xs) (hA : Above B A) (hg : g < B) (v : Value) : SlAt (W.setCell ⟨g, i, none⟩ v) (W.setCell ⟨g, i, none⟩ v).heap.size size A xs := by
 intro hn
 obtain ⟨b, o, h1, h2, h3⟩ := h hn
 have hb := hA _ h1
 refine ⟨b, o, h1, by simpa using h2, fun k hk j hj => ?_⟩
 rw [World.cell?_setCell_other, h3 k hk j hj]
 intro e
 simp at e
 simp at hb
 omega
theorem TabAt.far {W : World} {B g i cT cC : Nat} {A C : Option Addr} {ts : List Ty} {cs : List Ch} (h : TabAt W A C cT cC ts cs) (hA : Above B A) (hC : Above B C) (hg : g < B) (v : Value) : TabAt (W.setCell ⟨g, i, none⟩ v) A C cT cC ts cs :=
 ⟨h.T.far hA hg v, h.C.far hC hg v, h.cT, h.mT, h.cC, h.mC, h.names⟩
theorem mk_tab {w : World} {base m : Nat} {T C : Value} {s : NSt} (h : MkC w base m T C s) (hn : ∀ t ∈ s.ts, t.2.2.size ≤ maxLen) :
  ∃ A capA C' capC, T = .slice A s.ts.length capA ∧ C = .slice C' s.cs.length capC ∧ TabAt w A C' capA capC s.ts s.cs := by
 obtain ⟨A, cap, e1, h1, h2, hA⟩ := own_at (xss := s.ts.map tyCells) (by simpa using h.hT) (by intro xs hx; obtain ⟨t, _, rfl⟩ := List.mem_map.1 hx; rfl)
 obtain ⟨A2, cap2, e2, g1, g2, hA2⟩ := own_at (xss := s.cs.map chCells) (by simpa using h.hC) (by intro xs hx; obtain ⟨t, _, rfl⟩ := List.mem_map.1 hx; rfl)
 rw [List.length_map] at e1 e2 h1 g1
 exact ⟨A, cap, A2, cap2, e1, e2, hA, hA2, h1, h2, g1, g2, hn⟩
section
variable {W W2 Wd : World} {base m : Nat} {T C : Value} {s : NSt}
end
end Go.Proofs.YthppifcggmdmoaaGreatDoor
namespace Go.Proofs.YthppifcggmdmoaaGreatDoor
open Go.RowKit
set_option linter.unusedVariables false
abbrev btV (T C : Value) : Array Value := #[T, .int .i64 0, C]
abbrev lsV (x : Ty) : Array Value := #[.int .i64 x.1, .bool x.2.1, .string x.2.2]
structure BtC (w : World) (base m l : Nat) (T C : Value) (s : NSt) : Prop where
 hm : base ≤ m
 hl : base ≤ l
 blk : Blk w m 37 (btV T C)
 lst : Blk w l 56 (lsV s.last)
 hT : w.ownsRow base 56 3 T s.ts.length (s.ts.map tyCells).flatten
 hC : w.ownsRow base 44 2 C s.cs.length (s.cs.map chCells).flatten
 hTl : T.ownBlock ≠ some l
section
variable {w W W2 : World} {base m l : Nat} {T C T' C' : Value} {s : NSt}
theorem BtC.step (h : BtC W base m l T C s) (hb : Below W.heap.size W W2) : BtC W2 base m l T C s := ⟨h.hm, h.hl, h.blk.step hb, h.lst.step hb, own_step h.hT hb, own_step h.hC hb, h.hTl⟩
theorem BtC.alloc (h : BtC W base m l T C s) (o : Obj) : BtC (W.alloc o) base m l T C s := h.step ((Below.refl _ _).alloc (Nat.le_refl _) _)
theorem BtC.drewN (h : BtC W base m l T C s) (n : Nat) : BtC (W.drewN n) base m l T C s := h.step (below_drewN (Below.refl _ _) n)
theorem BtC.lt (h : BtC W base m l T C s) : base ≤ W.heap.size := Nat.le_of_lt (Nat.lt_of_le_of_lt h.hm h.blk.lt)
end
end Go.Proofs.YthppifcggmdmoaaGreatDoor

