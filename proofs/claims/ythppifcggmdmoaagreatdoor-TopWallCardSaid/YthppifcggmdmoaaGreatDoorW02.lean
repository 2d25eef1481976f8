/- Part 2 of the proof of TopWall: no condition; what its declarations say stands at each. -/
import Derived.Test.YthppifcggmdmoaaGreatDoorRows
import Derived.WalkKit
import Derived.WalkSpells
import Derived.WalkLawsBesides
import Derived.Lib.Hide
import Derived.Deep.QuietTactic
import Derived.BigQuiet
import Derived.Deep.DeepFit
import Derived.Deep.AppendLies
import Derived.Laws.OwnMore
import Derived.OneCell
import Derived.OwnWalk
import Derived.KernelRfl
import Derived.Deep.RegionHeld3
import Derived.Deep.DrawnRows
namespace Go.Proofs.YthppifcggmdmoaaGreatDoor
open Go.RowKit
set_option linter.unusedVariables false
theorem ret_int {k : IntKind} {a b : Int} (h : a = b) : Ending.returned (.int k a) = .returned (.int k b) := by rw [h]
theorem ret_bool {a b : Bool} (h : a = b) : Ending.returned (.bool a) = .returned (.bool b) := by rw [h]
theorem ret_ii {k l : IntKind} {a b c d : Int} (h : a = b) (g : c = d) : Ending.returned (.tuple #[.int k a, .int l c]) = .returned (.tuple #[.int k b, .int l d]) := by rw [h, g]
theorem below_drewN {B : Nat} {a w : World} (h : Below B a w) (n : Nat) : Below B a (w.drewN n) := ⟨h.os, h.tape, h.output, h.size, h.block⟩
theorem box3 {w w1 : World} {a b c : Value} {t : TypeId} (hb : Below (w.alloc (.cells #[a, b, c] t)).heap.size (w.alloc (.cells #[a, b, c] t)) w1) :
  w1.cell? ⟨w.heap.size, 0, none⟩ = some a ∧ w1.cell? ⟨w.heap.size, 1, none⟩ = some b ∧ w1.cell? ⟨w.heap.size, 2, none⟩ = some c ∧ w.heap.size < w1.heap.size ∧ Below w.heap.size w w1 := by
 have hs : (w.alloc (.cells #[a, b, c] t)).heap.size = w.heap.size + 1 := by simp
 refine ⟨?_, ?_, ?_, by have := hb.size; omega, ((Below.refl _ _).alloc (Nat.le_refl _) _).trans (hb.mono (by omega))⟩
 all_goals (rw [hb.cell (by simp)]; simp)
theorem boxc {w w1 : World} {cs : Array Value} {t : TypeId} (hb : Below (w.alloc (.cells cs t)).heap.size (w.alloc (.cells cs t)) w1) :
  (∀ i, w1.cell? ⟨w.heap.size, i, none⟩ = cs[i]?) ∧ w.heap.size < w1.heap.size ∧ Below w.heap.size w w1 := by
 have hs : (w.alloc (.cells cs t)).heap.size = w.heap.size + 1 := by simp
 refine ⟨fun i => ?_, by have := hb.size; omega, ((Below.refl _ _).alloc (Nat.le_refl _) _).trans (hb.mono (by omega))⟩
 rw [hb.cell (by simp)]; simp
theorem keepc {w W W2 : World} {cs : Array Value} (hcs : ∀ i, W.cell? ⟨w.heap.size, i, none⟩ = cs[i]?) (hz : w.heap.size < W.heap.size) (hb : Below w.heap.size w W) (h2 : Below W.heap.size W W2) :
  (∀ i, W2.cell? ⟨w.heap.size, i, none⟩ = cs[i]?) ∧ w.heap.size < W2.heap.size ∧ Below w.heap.size w W2 :=
 ⟨fun i => (h2.cell hz).trans (hcs i), Nat.lt_of_lt_of_le hz h2.size, hb.trans (h2.mono (Nat.le_of_lt hz))⟩
theorem keepS {w W W2 : World} {cs : Array Value} (h : (∀ i, W.cell? ⟨w.heap.size, i, none⟩ = cs[i]?) ∧ w.heap.size < W.heap.size ∧ Below w.heap.size w W) (h2 : Below W.heap.size W W2) :
  (∀ i, W2.cell? ⟨w.heap.size, i, none⟩ = cs[i]?) ∧ w.heap.size < W2.heap.size ∧ Below w.heap.size w W2 := keepc h.1 h.2.1 h.2.2 h2
end Go.Proofs.YthppifcggmdmoaaGreatDoor
namespace Go.Proofs.YthppifcggmdmoaaGreatDoor
open Go.RowKit
set_option linter.unusedVariables false
def SlAt (w : World) (B size : Nat) (A : Option Addr) (xs : List (List Value)) : Prop :=
 0 < xs.length → ∃ b o, A = some ⟨b, o, none⟩ ∧ b < B ∧ ∀ i, i < xs.length → ∀ j, j < size → w.cell? ⟨b, o + i * size + j, none⟩ = (xs.getD i [])[j]?
theorem SlAt.below {w w' : World} {B size : Nat} {A : Option Addr} {xs : List (List Value)} (h : SlAt w B size A xs) (hb : Below B w w') : SlAt w' B size A xs := by
 intro hn
 obtain ⟨b, o, h1, h2, h3⟩ := h hn
 exact ⟨b, o, h1, h2, fun i hi j hj => (hb.cell (by exact h2)).trans (h3 i hi j hj)⟩
theorem SlAt.more {w : World} {B B' size : Nat} {A : Option Addr} {xs : List (List Value)} (h : SlAt w B size A xs) (hb : B ≤ B') : SlAt w B' size A xs := by
 intro hn
 obtain ⟨b, o, h1, h2, h3⟩ := h hn
 exact ⟨b, o, h1, by omega, h3⟩
theorem SlAt.none_ (w : World) (B size : Nat) (A : Option Addr) : SlAt w B size A [] := fun h => absurd h (by simp)
def TK (w wr : World) (cs : Array Value) : Prop := (∀ i, wr.cell? ⟨w.heap.size, i, none⟩ = cs[i]?) ∧ w.heap.size < wr.heap.size ∧ Below w.heap.size w wr
theorem TK.step {w W W2 : World} {cs : Array Value} (h : TK w W cs) (h2 : Below W.heap.size W W2) : TK w W2 cs := keepS h h2
theorem TK.box (w : World) (cs : Array Value) (t : TypeId) : TK w (w.alloc (.cells cs t)) cs := boxc (Below.refl _ _)
theorem TK.alloc {w W : World} {cs : Array Value} (h : TK w W cs) (o : Obj) : TK w (W.alloc o) cs := h.step ((Below.refl _ _).alloc (Nat.le_refl _) _)
theorem TK.drewN {w W : World} {cs : Array Value} (h : TK w W cs) (n : Nat) : TK w (W.drewN n) cs := h.step (below_drewN (Below.refl _ _) n)
end Go.Proofs.YthppifcggmdmoaaGreatDoor
namespace Go.Proofs.YthppifcggmdmoaaGreatDoor
open Go.RowKit
set_option linter.unusedVariables false
theorem cell_new (w : World) (cs : Array Value) (t : TypeId) (n i : Nat) (hn : n = w.heap.size) : (w.alloc (.cells cs t)).cell? ⟨n, i, none⟩ = cs[i]? := by subst hn; simp
theorem cell_old (w : World) (o : Obj) (a : Addr) (h : a.block < w.heap.size) : (w.alloc o).cell? a = w.cell? a := World.cell?_alloc_lt w o a h
theorem frozen_new (w : World) (cs : Array Value) (t : TypeId) (n i : Nat) (hn : n = w.heap.size) : (w.alloc (.cells cs t)).frozen? ⟨n, i, none⟩ = false := by subst hn; simp
theorem size_alloc (w : World) (o : Obj) : (w.alloc o).heap.size = w.heap.size + 1 := by simp
theorem boxes2 (w : World) (c1 c2 : Array Value) (t1 t2 : TypeId) :
  (∀ i, ((w.alloc (.cells c1 t1)).alloc (.cells c2 t2)).cell? ⟨w.heap.size, i, none⟩ = c1[i]?) ∧ (∀ i, ((w.alloc (.cells c1 t1)).alloc (.cells c2 t2)).cell? ⟨w.heap.size + 1, i, none⟩ = c2[i]?) ∧
  (∀ i, ((w.alloc (.cells c1 t1)).alloc (.cells c2 t2)).frozen? ⟨w.heap.size + 1, i, none⟩ = false) ∧ ((w.alloc (.cells c1 t1)).alloc (.cells c2 t2)).heap.size = w.heap.size + 1 + 1 ∧ Below w.heap.size w ((w.alloc (.cells c1 t1)).alloc (.cells c2 t2)) := by
 refine ⟨fun i => ?_, fun i => ?_, fun i => ?_, by rw [size_alloc, size_alloc], ?_⟩
 ·rw [cell_old _ _ _ (by rw [size_alloc]; exact Nat.lt_succ_self _), cell_new _ _ _ _ _ rfl]
 ·rw [cell_new _ _ _ _ _ (by rw [size_alloc])]
 ·rw [frozen_new _ _ _ _ _ (by rw [size_alloc])]
 ·exact ((Below.refl _ _).alloc (Nat.le_refl _) _).alloc (by rw [size_alloc]; omega) _
theorem boxes3 (w : World) (c1 c2 c3 : Array Value) (t1 t2 t3 : TypeId) :
  (∀ i, (((w.alloc (.cells c1 t1)).alloc (.cells c2 t2)).alloc (.cells c3 t3)).cell? ⟨w.heap.size, i, none⟩ = c1[i]?) ∧ (∀ i, (((w.alloc (.cells c1 t1)).alloc (.cells c2 t2)).alloc (.cells c3 t3)).cell? ⟨w.heap.size + 1, i, none⟩ = c2[i]?) ∧
  (∀ i, (((w.alloc (.cells c1 t1)).alloc (.cells c2 t2)).alloc (.cells c3 t3)).cell? ⟨w.heap.size + 1 + 1, i, none⟩ = c3[i]?) ∧ (∀ i, (((w.alloc (.cells c1 t1)).alloc (.cells c2 t2)).alloc (.cells c3 t3)).frozen? ⟨w.heap.size + 1 + 1, i, none⟩ = false) ∧
  (((w.alloc (.cells c1 t1)).alloc (.cells c2 t2)).alloc (.cells c3 t3)).heap.size = w.heap.size + 1 + 1 + 1 ∧ Below w.heap.size w (((w.alloc (.cells c1 t1)).alloc (.cells c2 t2)).alloc (.cells c3 t3)) := by
 obtain ⟨a1, a2, _, a4, a5⟩ := boxes2 w c1 c2 t1 t2
 refine ⟨fun i => ?_, fun i => ?_, fun i => ?_, fun i => ?_, by rw [size_alloc, a4], a5.alloc (by rw [a4]; omega) _⟩
 ·rw [cell_old _ _ _ (by rw [a4]; exact Nat.lt_succ_of_lt (Nat.lt_succ_self _)), a1]
 ·rw [cell_old _ _ _ (by rw [a4]; exact Nat.lt_succ_self _), a2]
 ·rw [cell_new _ _ _ _ _ (by rw [a4])]
 ·rw [frozen_new _ _ _ _ _ (by rw [a4])]
theorem far3 {w : World} {g : Nat} {x y z : Value} {a : Addr} (h : g ≠ a.block) : (((w.setCell ⟨g, 0, none⟩ x).setCell ⟨g, 1, none⟩ y).setCell ⟨g, 2, none⟩ z).cell? a = w.cell? a := by
 rw [World.cell?_setCell_other, World.cell?_setCell_other, World.cell?_setCell_other] <;> (intro e; apply h; rw [← e])
def Bx (g : Nat) (wr : World) (cs : Array Value) : Prop := (∀ i, wr.cell? ⟨g, i, none⟩ = cs[i]?) ∧ (∀ i, wr.frozen? ⟨g, i, none⟩ = false) ∧ g < wr.heap.size
theorem Bx.step {g : Nat} {W W2 : World} {cs : Array Value} (h : Bx g W cs) (h2 : Below W.heap.size W W2) : Bx g W2 cs :=
 ⟨fun i => (h2.cell h.2.2).trans (h.1 i), fun i => (h2.frozen h.2.2).trans (h.2.1 i), Nat.lt_of_lt_of_le h.2.2 h2.size⟩
theorem Bx.alloc {g : Nat} {W : World} {cs : Array Value} (h : Bx g W cs) (o : Obj) : Bx g (W.alloc o) cs := h.step ((Below.refl _ _).alloc (Nat.le_refl _) _)
theorem Bx.drewN {g : Nat} {W : World} {cs : Array Value} (h : Bx g W cs) (n : Nat) : Bx g (W.drewN n) cs := h.step (below_drewN (Below.refl _ _) n)
theorem Bx.drew {g : Nat} {W : World} {cs : Array Value} (h : Bx g W cs) : Bx g W.drew cs := h.step (Below.refl _ _).drew
theorem Bx.new (w : World) (cs : Array Value) (t : TypeId) : Bx w.heap.size (w.alloc (.cells cs t)) cs := ⟨fun i => cell_new _ _ _ _ _ rfl, fun i => frozen_new _ _ _ _ _ rfl, by rw [size_alloc]; omega⟩
theorem Bx.new' (w : World) (cs : Array Value) (t : TypeId) {n : Nat} (h : n = w.heap.size) : Bx n (w.alloc (.cells cs t)) cs := by subst h; exact Bx.new w cs t
end Go.Proofs.YthppifcggmdmoaaGreatDoor
namespace Go.Proofs.YthppifcggmdmoaaGreatDoor
open Go.RowKit
set_option linter.unusedVariables false
theorem flat_get {α : Type} {size : Nat} : ∀ (xss : List (List α)) (i j : Nat), (∀ xs ∈ xss, xs.length = size) → i < xss.length → j < size → xss.flatten[i * size + j]? = (xss.getD i [])[j]?
 | [], i, j, _, hi, _ => by simp at hi
 | x :: xss, 0, j, h, _, hj => by
  have h0 : x.length = size := h x (by simp)
  rw [List.flatten_cons, List.getElem?_append_left (by omega)]
  simp
 | x :: xss, i + 1, j, h, hi, hj => by
  have h0 : x.length = size := h x (by simp)
  have e : (i + 1) * size + j - x.length = i * size + j := by rw [Nat.succ_mul, h0]; omega
  have hge : x.length ≤ (i + 1) * size + j := by rw [Nat.succ_mul, h0]; omega
  rw [List.flatten_cons, List.getElem?_append_right hge, e, flat_get xss i j (fun y hy => h y (by simp [hy])) (by simpa using hi) hj]
  simp
theorem flat_len {α : Type} {size : Nat} : ∀ (xss : List (List α)), (∀ xs ∈ xss, xs.length = size) → xss.flatten.length = xss.length * size
 | [], _ => by simp
 | x :: xss, h => by
  rw [List.flatten_cons, List.length_append, h x (by simp), flat_len xss (fun y hy => h y (by simp [hy])), List.length_cons, Nat.succ_mul]
  omega
theorem own_sl {W : World} {base e size g n cap : Nat} {xss : List (List Value)} (hl : xss.length = n) (h : W.ownsRow base e size (.slice (some ⟨g, 0, none⟩) n cap) n xss.flatten) (hx : ∀ xs ∈ xss, xs.length = size) (hg : g < W.heap.size) : SlAt W W.heap.size size (some ⟨g, 0, none⟩) xss := by
 intro hn
 refine ⟨g, 0, rfl, hg, fun i hi j hj => ?_⟩
 have hlt : i * size + j < n * size := by
  have h1 : i + 1 ≤ n := by omega
  have h2 := Nat.mul_le_mul_right size h1
  rw [Nat.succ_mul] at h2
  omega
 rw [show 0 + i * size + j = i * size + j by omega, h.cellAt (i * size + j) hlt, flat_get xss i j hx hi hj]
end Go.Proofs.YthppifcggmdmoaaGreatDoor
namespace Go.Proofs.YthppifcggmdmoaaGreatDoor
open Go.RowKit
set_option linter.unusedVariables false
def Blk (w : World) (g : Nat) (t : TypeId) (cs : Array Value) : Prop := w.heap[g]? = some (.cells cs t (0, 0))
section
variable {w W W2 : World} {g g' : Nat} {t t' : TypeId} {cs cs' : Array Value}
theorem Blk.lt (h : Blk w g t cs) : g < w.heap.size := lt_of_block h
theorem Blk.cell (h : Blk w g t cs) (i : Nat) : w.cell? ⟨g, i, none⟩ = cs[i]? := cell_of_row w g i cs t _ h
theorem Blk.frz (h : Blk w g t cs) (i : Nat) : w.frozen? ⟨g, i, none⟩ = false := frozen_of_row w g i cs t h
theorem Blk.new (w : World) (cs : Array Value) (t : TypeId) : Blk (w.alloc (.cells cs t)) w.heap.size t cs := heap_alloc_new _ _
theorem Blk.new' (w : World) (cs : Array Value) (t : TypeId) {n : Nat} (h : n = w.heap.size) : Blk (w.alloc (.cells cs t)) n t cs := by subst h; exact Blk.new w cs t
theorem Blk.below {B : Nat} (h : Blk W g t cs) (hb : Below B W W2) (hg : g < B) : Blk W2 g t cs := (hb.block g hg).trans h
theorem Blk.step (h : Blk W g t cs) (hb : Below W.heap.size W W2) : Blk W2 g t cs := h.below hb h.lt
theorem Blk.alloc (h : Blk W g t cs) (o : Obj) : Blk (W.alloc o) g t cs := h.step ((Below.refl _ _).alloc (Nat.le_refl _) _)
theorem Blk.drew (h : Blk W g t cs) : Blk W.drew g t cs := h
theorem Blk.drewN (h : Blk W g t cs) (n : Nat) : Blk (W.drewN n) g t cs := h
theorem Blk.far (h : Blk W g t cs) {a : Addr} (hne : g ≠ a.block) (v : Value) : Blk (W.setCell a v) g t cs := (Below.heap_setCell _ _ _ _ hne).trans h
theorem Blk.grown {row : Option Nat} (h : Blk W g t cs) (hg : W.grownBy W2 row) (hr : row ≠ some g) : Blk W2 g t cs := (hg.block g h.lt (Ne.symm hr)).trans h
theorem Blk.grown' {row : Option Nat} (hg : W.grownBy W2 row) (h : Blk W g t cs) (hr : row ≠ some g) : Blk W2 g t cs := h.grown hg hr
theorem Blk.set (h : Blk W g t cs) (i : Nat) (v : Value) : Blk (W.setCell ⟨g, i, none⟩ v) g t (cs.setIfInBounds i v) := by
 have hlt := h.lt
 have h' : W.heap[g] = .cells cs t (0, 0) := by simpa [Blk, Array.getElem?_eq_getElem hlt] using h
 show (W.heap.modify g _)[g]? = _
 rw [Array.getElem?_eq_getElem (by simpa using hlt), Array.getElem_modify_self, h']
 rfl
theorem Blk.ne (h : Blk W g t cs) (h' : Blk W g' t' cs') (hne : t ≠ t') : g ≠ g' := by
 rintro rfl
 have e : some (Obj.cells cs t (0, 0)) = some (Obj.cells cs' t' (0, 0)) := (show W.heap[g]? = _ from h).symm.trans h'
 simp only [Option.some.injEq, Obj.cells.injEq] at e
 exact hne e.2.1
theorem Blk.own_ne {base e size n : Nat} {v : Value} {xs : List Value} (h : Blk W g t cs) (ho : W.ownsRow base e size v n xs) (hne : t ≠ e) : v.ownBlock ≠ some g := by
 rcases ho.2 with ⟨rfl, _⟩ | ⟨k, cap, cur, rfl, _, hk, _⟩
 ·simp [Value.ownBlock]
 ·intro e1
  obtain rfl : k = g := by simpa [Value.ownBlock] using e1
  have e2 := hk.symm.trans h
  simp only [Option.some.injEq, Obj.cells.injEq] at e2
  exact hne e2.2.1.symm
end
section
variable {W W2 : World} {base base' e e' size size' n n' : Nat} {v v' : Value} {xs xs' : List Value}
theorem own_ne (h : W.ownsRow base e size v n xs) (h' : W.ownsRow base' e' size' v' n' xs') (hne : e ≠ e') : v.ownBlock = none ∨ v.ownBlock ≠ v'.ownBlock := by
 rcases h.2 with ⟨rfl, _⟩ | ⟨g, cap, cur, rfl, _, hg, _⟩
 ·exact Or.inl rfl
 ·refine Or.inr (fun e1 => ?_)
  exact Blk.own_ne (show Blk W g e cur from hg) h' hne e1.symm
theorem own_step (h : W.ownsRow base e size v n xs) (hb : Below W.heap.size W W2) : W2.ownsRow base e size v n xs :=
 ⟨h.1, h.2.imp id (fun ⟨g, cap, cur, a1, a2, a3, a4⟩ => ⟨g, cap, cur, a1, a2, (hb.block g (lt_of_block a3)).trans a3, a4⟩)⟩
theorem own_at {xss : List (List Value)} (h : W.ownsRow base e size v xss.length xss.flatten) (hx : ∀ xs ∈ xss, xs.length = size) :
  ∃ A cap, v = .slice A xss.length cap ∧ xss.length ≤ cap ∧ cap ≤ maxLen ∧ SlAt W W.heap.size size A xss := by
 have h0 := h
 rcases h.2 with ⟨rfl, hn⟩ | ⟨g, cap, cur, rfl, _, hg, h1, h2, _⟩
 ·have e0 : xss = [] := List.length_eq_zero_iff.1 hn
  subst e0
  exact ⟨none, 0, rfl, by simp, by unfold maxLen; omega, SlAt.none_ _ _ _ _⟩
 ·exact ⟨_, cap, rfl, h1, h2, own_sl rfl h0 hx (lt_of_block hg)⟩
end
theorem below3 {w W : World} {b3 : Nat} {x y z : Value} (h : Below w.heap.size w W) (hb : w.heap.size ≤ b3) : Below w.heap.size w (((W.setCell ⟨b3, 0, none⟩ x).setCell ⟨b3, 1, none⟩ y).setCell ⟨b3, 2, none⟩ z) :=
 Below.setCell (Below.setCell (Below.setCell h (p := ⟨b3, 0, none⟩) hb x) (p := ⟨b3, 1, none⟩) hb y) (p := ⟨b3, 2, none⟩) hb z
theorem below_app {W W2 : World} {base : Nat} (hb : base ≤ W.heap.size) {v : Value} {e size n : Nat} {xs : List Value} (ho : W.ownsRow base e size v n xs) (hg : W.grownBy W2 v.ownBlock) : Below base W W2 :=
 (Below.refl _ _).grown hg hb (fun k hk => (ho.lt k hk).1)
end Go.Proofs.YthppifcggmdmoaaGreatDoor
namespace Go.Proofs.YthppifcggmdmoaaGreatDoor
open Go.RowKit
set_option linter.unusedVariables false
end Go.Proofs.YthppifcggmdmoaaGreatDoor
namespace Go.Proofs.YthppifcggmdmoaaGreatDoor
open Go.RowKit
set_option linter.unusedVariables false
structure RuT where
 (name : ByteArray) (f t m k wd n a b sv : Int) (letter : ByteArray)
def ruC (r : RuT) : List Value := [.string r.name, .int .i64 r.f, .int .i64 r.t, .int .i64 r.m, .int .i64 r.k, .int .i64 r.wd, .int .i64 r.n, .int .i64 r.a, .int .i64 r.b, .int .i64 r.sv, .string r.letter]
theorem ru_at {w : World} {B : Nat} {A : Option Addr} {rs : List RuT} (h : SlAt w B 11 A (rs.map ruC)) {k : Nat} (hk : k < rs.length) :
  ∃ b o, A = some ⟨b, o, none⟩ ∧ b < B ∧ w.cell? ⟨b, o + k * 11, none⟩ = some (.string rs[k].name) ∧ w.cell? ⟨b, o + k * 11 + 1, none⟩ = some (.int .i64 rs[k].f) ∧ w.cell? ⟨b, o + k * 11 + 2, none⟩ = some (.int .i64 rs[k].t) ∧
   w.cell? ⟨b, o + k * 11 + 3, none⟩ = some (.int .i64 rs[k].m) ∧ w.cell? ⟨b, o + k * 11 + 4, none⟩ = some (.int .i64 rs[k].k) ∧ w.cell? ⟨b, o + k * 11 + 5, none⟩ = some (.int .i64 rs[k].wd) ∧ w.cell? ⟨b, o + k * 11 + 6, none⟩ = some (.int .i64 rs[k].n) ∧
   w.cell? ⟨b, o + k * 11 + 7, none⟩ = some (.int .i64 rs[k].a) ∧ w.cell? ⟨b, o + k * 11 + 8, none⟩ = some (.int .i64 rs[k].b) ∧ w.cell? ⟨b, o + k * 11 + 9, none⟩ = some (.int .i64 rs[k].sv) ∧ w.cell? ⟨b, o + k * 11 + 10, none⟩ = some (.string rs[k].letter) := by
 obtain ⟨b, o, h1, h2, h3⟩ := h (by simp; omega)
 have e : (rs.map ruC).getD k [] = ruC rs[k] := by simp [List.getD, hk]
 have h4 := h3 k (by simpa using hk)
 rw [e] at h4
 exact ⟨b, o, h1, h2, h4 0 (by omega), h4 1 (by omega), h4 2 (by omega), h4 3 (by omega), h4 4 (by omega), h4 5 (by omega), h4 6 (by omega), h4 7 (by omega), h4 8 (by omega), h4 9 (by omega), h4 10 (by omega)⟩
end Go.Proofs.YthppifcggmdmoaaGreatDoor
namespace Go.Proofs.YthppifcggmdmoaaGreatDoor
open Go.RowKit
set_option linter.unusedVariables false
structure ErT where
 (off : Int) (rules : ByteArray) (save : Int) (format : ByteArray) (until_ : Int)
def erC (r : ErT) : List Value := [.int .i64 r.off, .string r.rules, .int .i64 r.save, .string r.format, .int .i64 r.until_]
theorem er_at {w : World} {B : Nat} {A : Option Addr} {rs : List ErT} (h : SlAt w B 5 A (rs.map erC)) {k : Nat} (hk : k < rs.length) :
  ∃ b o, A = some ⟨b, o, none⟩ ∧ b < B ∧ w.cell? ⟨b, o + k * 5, none⟩ = some (.int .i64 rs[k].off) ∧ w.cell? ⟨b, o + k * 5 + 1, none⟩ = some (.string rs[k].rules) ∧ w.cell? ⟨b, o + k * 5 + 2, none⟩ = some (.int .i64 rs[k].save) ∧
   w.cell? ⟨b, o + k * 5 + 3, none⟩ = some (.string rs[k].format) ∧ w.cell? ⟨b, o + k * 5 + 4, none⟩ = some (.int .i64 rs[k].until_) := by
 obtain ⟨b, o, h1, h2, h3⟩ := h (by simp; omega)
 have e : (rs.map erC).getD k [] = erC rs[k] := by simp [List.getD, hk]
 have h4 := h3 k (by simpa using hk)
 rw [e] at h4
 exact ⟨b, o, h1, h2, h4 0 (by omega), h4 1 (by omega), h4 2 (by omega), h4 3 (by omega), h4 4 (by omega)⟩
end Go.Proofs.YthppifcggmdmoaaGreatDoor

