/- Part 30 of the proof of TopWall: no condition; what its declarations say stands at each. -/
import Derived.Test.YthppifcggmdmoaaGreatDoorW02
import Derived.Deep.Onto
import Derived.RegionTactic
import Derived.Maps.RangeWalk
import Derived.BigRegion
import Derived.Test.YthppifcggmdmoaaGreatDoorW29
import Derived.Test.YthppifcggmdmoaaGreatDoorW01
import Derived.BigQuiet
import Derived.Shelf.SlSortCmp.QuietGrown
import Derived.Deep.CutRange
namespace Go.Proofs.YthppifcggmdmoaaGreatDoor
open Go.RowKit
set_option linter.unusedVariables false
abbrev Nm := Int × Option Addr
def nmC (x : Nm) : List Value := [.int .i64 x.1, .pointer x.2]
def NmAt (w : World) (base G cap : Nat) (xs : List Nm) : Prop := w.ownsRow base 187 2 (.slice (some ⟨G, 0, none⟩) xs.length cap) xs.length (xs.map nmC).flatten
theorem nm_get {xs : List Nm} {k : Nat} (h : k < xs.length) : (xs.map nmC).flatten[k * 2]? = some (.int .i64 xs[k].1) ∧ (xs.map nmC).flatten[k * 2 + 1]? = some (.pointer xs[k].2) := by
 induction xs generalizing k with
 | nil => cases h
 | cons x l ih =>
  cases k with
  | zero => exact ⟨rfl, rfl⟩
  | succ k =>
   have := ih (k := k) (by simpa using h)
   have e1 : (k + 1) * 2 = k * 2 + 2 := by omega
   rw [e1]
   exact ⟨by simpa [nmC] using this.1, by simpa [nmC] using this.2⟩
theorem nm_set {xs : List Nm} {k : Nat} (h : k < xs.length) (y : Nm) : ((xs.map nmC).flatten.set (k * 2) (.int .i64 y.1)).set (k * 2 + 1) (.pointer y.2) = ((xs.set k y).map nmC).flatten := by
 induction xs generalizing k with
 | nil => cases h
 | cons x l ih =>
  cases k with
  | zero => rfl
  | succ k =>
   have := ih (k := k) (by simpa using h)
   have e1 : (k + 1) * 2 = k * 2 + 2 := by omega
   rw [e1]
   show ((Value.int .i64 x.1 :: Value.pointer x.2 :: (l.map nmC).flatten).set (k * 2 + 2) _).set (k * 2 + 2 + 1) _ = Value.int .i64 x.1 :: Value.pointer x.2 :: ((l.set k y).map nmC).flatten
   rw [← this]
   rfl
theorem NmAt.cell {w : World} {base G cap : Nat} {xs : List Nm} (h : NmAt w base G cap xs) {k : Nat} (hk : k < xs.length) : w.cell? ⟨G, k * 2, none⟩ = some (.int .i64 xs[k].1) ∧ w.cell? ⟨G, k * 2 + 1, none⟩ = some (.pointer xs[k].2) := by
 have := nm_get hk
 exact ⟨(World.ownsRow.cellAt h _ (by omega)).trans this.1, (World.ownsRow.cellAt h _ (by omega)).trans this.2⟩
theorem NmAt.cell' {w : World} {base G cap : Nat} {xs : List Nm} (h : NmAt w base G cap xs) {k : Nat} {x : Nm} (hg : xs[k]? = some x) : w.cell? ⟨G, k * 2, none⟩ = some (.int .i64 x.1) ∧ w.cell? ⟨G, k * 2 + 1, none⟩ = some (.pointer x.2) := by
 obtain ⟨hk, rfl⟩ := List.getElem?_eq_some_iff.1 hg
 exact h.cell hk
theorem NmAt.frz {w : World} {base G cap : Nat} {xs : List Nm} (h : NmAt w base G cap xs) (j : Nat) : w.frozen? ⟨G, j, none⟩ = false := World.ownsRow.frozenAt h j
theorem NmAt.put {w : World} {base G cap : Nat} {xs : List Nm} (h : NmAt w base G cap xs) {k : Nat} (hk : k < xs.length) (y : Nm) : NmAt ((w.setCell ⟨G, k * 2, none⟩ (.int .i64 y.1)).setCell ⟨G, k * 2 + 1, none⟩ (.pointer y.2)) base G cap (xs.set k y) := by
 have h1 := (World.ownsRow.stored (World.ownsRow.stored h (k * 2) (.int .i64 y.1)).1 (k * 2 + 1) (.pointer y.2)).1
 rw [nm_set hk y] at h1
 show World.ownsRow _ _ _ _ (.slice _ (xs.set k y).length _) (xs.set k y).length _
 rw [List.length_set]
 exact h1
theorem NmAt.lt {w : World} {base G cap : Nat} {xs : List Nm} (h : NmAt w base G cap xs) : base ≤ G ∧ G < w.heap.size := World.ownsRow.lt h G rfl
theorem NmAt.caps {w : World} {base G cap : Nat} {xs : List Nm} (h : NmAt w base G cap xs) : xs.length ≤ cap ∧ cap ≤ maxLen := by
 rcases h.2 with ⟨h, _⟩ | ⟨g, c, cur, e, _, _, h1, h2, _⟩
 ·cases h
 ·cases e; exact ⟨h1, h2⟩
theorem grown_set2 (w : World) (a : Addr) (v : Value) : w.grownBy (w.setCell a v) (some a.block) :=
 ⟨rfl, rfl, rfl, by simp, fun k _ hk => Below.heap_setCell _ _ _ _ (fun e => hk (by rw [e]))⟩
theorem sw_get1 {P A B C S : List Nm} {k : Nat} (hA : k < A.length) (hl : A.length = C.length) : (P ++ (C.take k ++ A.drop k) ++ B ++ (A.take k ++ C.drop k) ++ S)[P.length + k]? = some A[k] := by
 rw [List.append_assoc, List.append_assoc, List.append_assoc, List.getElem?_append_right (by omega), show P.length + k - P.length = k by omega, List.append_assoc, List.getElem?_append_right (by simp; omega)]
 rw [List.length_take, show k - min k C.length = 0 by omega, List.getElem?_append_left (by simp; omega), List.getElem?_drop, Nat.add_zero, List.getElem?_eq_getElem hA]
theorem sw_get2 {P A B C S : List Nm} {k : Nat} (hA : k < A.length) (hl : A.length = C.length) : (P ++ (C.take k ++ A.drop k) ++ B ++ (A.take k ++ C.drop k) ++ S)[P.length + A.length + B.length + k]? = some (C[k]'(by omega)) := by
 have e0 : (P ++ (C.take k ++ A.drop k) ++ B).length = P.length + A.length + B.length := by simp; omega
 rw [List.append_assoc, List.getElem?_append_right (by omega), e0, show P.length + A.length + B.length + k - (P.length + A.length + B.length) = k by omega, List.append_assoc, List.getElem?_append_right (by simp; omega)]
 rw [List.length_take, show k - min k A.length = 0 by omega, List.getElem?_append_left (by simp; omega), List.getElem?_drop, Nat.add_zero, List.getElem?_eq_getElem (by omega)]
theorem set_at {α : Type} (X T : List α) (a b : α) {n : Nat} (h : n = X.length) : (X ++ a :: T).set n b = X ++ b :: T := by
 subst h
 rw [List.set_append_right _ _ (Nat.le_refl _), Nat.sub_self]; rfl
theorem sw_form {P A B C S : List Nm} {k : Nat} (hA : k < A.length) (hl : A.length = C.length) : P ++ (C.take k ++ A.drop k) ++ B ++ (A.take k ++ C.drop k) ++ S = (P ++ C.take k) ++ A[k] :: ((A.drop (k + 1) ++ B ++ A.take k) ++ (C[k]'(by omega)) :: (C.drop (k + 1) ++ S)) := by
 rw [List.drop_eq_getElem_cons hA, List.drop_eq_getElem_cons (show k < C.length by omega)]
 simp only [List.append_assoc, List.cons_append]
theorem sw_form2 {P A B C S : List Nm} {k : Nat} (hA : k < A.length) (hl : A.length = C.length) : P ++ (C.take (k + 1) ++ A.drop (k + 1)) ++ B ++ (A.take (k + 1) ++ C.drop (k + 1)) ++ S = (P ++ C.take k) ++ (C[k]'(by omega)) :: ((A.drop (k + 1) ++ B ++ A.take k) ++ A[k] :: (C.drop (k + 1) ++ S)) := by
 rw [List.take_succ_eq_append_getElem hA, List.take_succ_eq_append_getElem (show k < C.length by omega)]
 simp only [List.append_assoc, List.cons_append, List.nil_append]
theorem sw_step {P A B C S : List Nm} {k : Nat} (hA : k < A.length) (hl : A.length = C.length) : ((P ++ (C.take k ++ A.drop k) ++ B ++ (A.take k ++ C.drop k) ++ S).set (P.length + k) (C[k]'(by omega))).set (P.length + A.length + B.length + k) A[k] = P ++ (C.take (k + 1) ++ A.drop (k + 1)) ++ B ++ (A.take (k + 1) ++ C.drop (k + 1)) ++ S := by
 rw [sw_form hA hl, set_at _ _ _ _ (by simp; omega), sw_form2 hA hl]
 have e : P.length + A.length + B.length + k = ((P ++ C.take k) ++ (C[k]'(by omega)) :: (A.drop (k + 1) ++ B ++ A.take k)).length := by simp; omega
 have f := set_at ((P ++ C.take k) ++ (C[k]'(by omega)) :: (A.drop (k + 1) ++ B ++ A.take k)) (C.drop (k + 1) ++ S) (C[k]'(by omega)) A[k] e
 simpa using f
theorem sw_len {P A B C S : List Nm} {k : Nat} (hA : k ≤ A.length) (hl : A.length = C.length) : (P ++ (C.take k ++ A.drop k) ++ B ++ (A.take k ++ C.drop k) ++ S).length = P.length + A.length + B.length + C.length + S.length := by
 simp; omega
set_option maxRecDepth 100000 in
set_option maxHeartbeats 8000000 in
theorem s_swapRange (base G cap : Nat) (P A B C S : List Nm) (cm : Value) (w : World) (hl : A.length = C.length) (hn : (P ++ A ++ B ++ C ++ S).length ≤ 100000) (H : NmAt w base G cap (P ++ A ++ B ++ C ++ S)) :
  Calls Tryz.prog 212 #[.slice (some ⟨G, 0, none⟩) (P ++ A ++ B ++ C ++ S).length cap, .int .i64 P.length, .int .i64 (P.length + A.length + B.length : Nat), .int .i64 A.length, cm] w
   fun e w' => e = .returned (.tuple #[]) ∧ NmAt w' base G cap (P ++ C ++ B ++ A ++ S) ∧ w.grownBy w' (some G) := by
 have hN : (P ++ A ++ B ++ C ++ S).length = P.length + A.length + B.length + C.length + S.length := by simp; omega
 obtain ⟨N, hNN⟩ : ∃ N, (P ++ A ++ B ++ C ++ S).length = N := ⟨_, rfl⟩
 rw [hNN] at hn hN ⊢
 obtain ⟨pa, hpa⟩ : ∃ n, P.length = n := ⟨_, rfl⟩
 obtain ⟨la, hla⟩ : ∃ n, A.length = n := ⟨_, rfl⟩
 obtain ⟨lb, hlb⟩ : ∃ n, B.length = n := ⟨_, rfl⟩
 rw [hpa, hla, hlb, ← hl, hla] at hN
 rw [hpa, hla, hlb]
 have HLA := Lib.hid hla
 have HLB := Lib.hid hlb
 have HPA := Lib.hid hpa
 have HLC := Lib.hid hl
 have hcap := Lib.hid H.caps
 have H0 := Lib.hid (show NmAt w base G cap (P ++ (C.take 0 ++ A.drop 0) ++ B ++ (A.take 0 ++ C.drop 0) ++ S) by simpa using H)
 clear H hla hlb hpa hl hNN
 go_enter Tryz.func212, Tryz.ntmps212
 go_wp2_with fail
 go_loopw [10] (fun i wr => ∃ k : Nat, k ≤ la ∧ i = .int .i64 k ∧ Hid (NmAt wr base G cap (P ++ (C.take k ++ A.drop k) ++ B ++ (A.take k ++ C.drop k) ++ S)) ∧ Hid (w.grownBy wr (some G))) (fun i _ => la - (intOf i).toNat)
 case atStart => exact ⟨0, Nat.zero_le _, rfl, H0, Lib.hid ⟨rfl, rfl, rfl, Nat.le_refl _, fun _ _ _ => rfl⟩⟩
 case round =>
  clear H0
  obtain ⟨k, hk, rfl, HK, HG⟩ := hrel
  by_cases hlt : k < la
  ·have hkA : k < A.length := by rw [HLA.out]; exact hlt
   have hlen := Lib.hid (sw_len (P := P) (A := A) (B := B) (C := C) (S := S) (k := k) (by omega) HLC.out)
   have g1 := sw_get1 (P := P) (A := A) (B := B) (C := C) (S := S) hkA HLC.out
   have g2 := sw_get2 (P := P) (A := A) (B := B) (C := C) (S := S) hkA HLC.out
   have HST := Lib.hid (sw_step (P := P) (A := A) (B := B) (C := C) (S := S) hkA HLC.out)
   obtain ⟨x, hx⟩ : ∃ x, A[k] = x := ⟨_, rfl⟩
   obtain ⟨y, hy⟩ : ∃ y, C[k]'(by have := HLC.out; omega) = y := ⟨_, rfl⟩
   rw [hx] at g1 HST
   rw [hy] at g2 HST
   clear hx hy
   have c1 := HK.out.cell' g1
   have c2 := HK.out.cell' g2
   rw [HPA.out] at c1
   rw [HPA.out, HLA.out, HLB.out] at c2
   obtain ⟨c10, c11⟩ := c1
   obtain ⟨c20, c21⟩ := c2
   have z10 := HK.out.frz ((pa + k) * 2)
   have z11 := HK.out.frz ((pa + k) * 2 + 1)
   have z20 := HK.out.frz ((pa + la + lb + k) * 2)
   have z21 := HK.out.frz ((pa + la + lb + k) * 2 + 1)
   have zl := HK.out.lt.2
   have hc1 := hcap.out.1
   have hc2 := hcap.out.2
   unfold maxLen at hc2
   have i1 : (0 : Int) ≤ (pa : Int) + (k : Int) := by omega
   have i2 : (pa : Int) + (k : Int) < (N : Int) := by omega
   have i3 : (0 : Int) ≤ ((pa + la + lb : Nat) : Int) + (k : Int) := by omega
   have i4 : ((pa + la + lb : Nat) : Int) + (k : Int) < (N : Int) := by omega
   obtain ⟨xa, xp⟩ := x
   obtain ⟨ya, yp⟩ := y
   simp only at c10 c11 c20 c21
   clear g1 g2 hc1
   go_wp2_with fail
   go_region
   have h1 := HK.out.put (k := P.length + k) (by rw [hlen.out]; omega) (ya, yp)
   have h2 := h1.put (k := P.length + A.length + B.length + k) (by rw [List.length_set, hlen.out]; have := HLC.out; omega) (xa, xp)
   rw [HST.out, HPA.out, HLA.out, HLB.out] at h2
   have hj : ∀ (W : World) (a : Addr) (v : Value), a.block = G → w.grownBy W (some G) → w.grownBy (W.setCell a v) (some G) := fun W a v ha h => h.andThen (grown_set2 W a v) (fun j hj => Or.inr (by rw [← hj, ha]))
   have hg2 := hj _ ⟨G, (pa + la + lb + k) * 2 + 1, none⟩ (.pointer xp) rfl (hj _ ⟨G, (pa + la + lb + k) * 2, none⟩ (.int .i64 xa) rfl (hj _ ⟨G, (pa + k) * 2 + 1, none⟩ (.pointer yp) rfl (hj wr ⟨G, (pa + k) * 2, none⟩ (.int .i64 ya) rfl HG.out)))
   have HF := Lib.hid (And.intro h2 hg2)
   clear h1 h2 hg2 hj c10 c11 c20 c21 z10 z11 z20 z21
   obtain ⟨V, hV⟩ : ∃ V, (((wr.setCell ⟨G, (pa + k) * 2, none⟩ (.int .i64 ya)).setCell ⟨G, (pa + k) * 2 + 1, none⟩ (.pointer yp)).setCell ⟨G, (pa + la + lb + k) * 2, none⟩ (.int .i64 xa)).setCell ⟨G, (pa + la + lb + k) * 2 + 1, none⟩ (.pointer xp) = V := ⟨_, rfl⟩
   rw [hV] at HF ⊢
   clear hV
   go_wp2_with fail
   exact ⟨⟨k + 1, by omega, by go_num, Lib.hid HF.out.1, Lib.hid (show w.grownBy V.drew (some G) from ⟨HF.out.2.os, HF.out.2.tape, HF.out.2.output, HF.out.2.size, HF.out.2.block⟩)⟩, by simp only [intOf]; omega⟩
  ·obtain rfl : k = la := by omega
   go_wp2_with fail
   go_end0
   refine ⟨rfl, ?_, HG.out⟩
   have hh := HK.out
   rw [List.take_of_length_le (show C.length ≤ k by rw [← HLC.out, HLA.out]; omega), List.drop_eq_nil_of_le (show A.length ≤ k by rw [HLA.out]; omega), List.take_of_length_le (show A.length ≤ k by rw [HLA.out]; omega), List.drop_eq_nil_of_le (show C.length ≤ k by rw [← HLC.out, HLA.out]; omega)] at hh
   simpa using hh
end Go.Proofs.YthppifcggmdmoaaGreatDoor
namespace Go.Proofs.YthppifcggmdmoaaGreatDoor
open Go.RowKit
set_option linter.unusedVariables false
theorem s_swapRange' (base G cap N pa pb n : Nat) (P A B C S : List Nm) (cm : Value) (w : World) (hl : A.length = C.length) (hN : (P ++ A ++ B ++ C ++ S).length = N) (hpa : P.length = pa) (hpb : P.length + A.length + B.length = pb) (hna : A.length = n) (hn : N ≤ 100000) (H : NmAt w base G cap (P ++ A ++ B ++ C ++ S)) :
  Calls Tryz.prog 212 #[.slice (some ⟨G, 0, none⟩) N cap, .int .i64 pa, .int .i64 pb, .int .i64 n, cm] w
   fun e w' => e = .returned (.tuple #[]) ∧ NmAt w' base G cap (P ++ C ++ B ++ A ++ S) ∧ w.grownBy w' (some G) := by
 subst hN hpa hpb hna
 exact s_swapRange base G cap P A B C S cm w hl hn H
theorem grown_refl (w : World) (r : Option Nat) : w.grownBy w r := ⟨rfl, rfl, rfl, Nat.le_refl _, fun _ _ _ => rfl⟩
theorem grown_same {w w1 w2 : World} {G : Nat} (h : w.grownBy w1 (some G)) (k : w1.grownBy w2 (some G)) : w.grownBy w2 (some G) := h.andThen k (fun j hj => Or.inr hj)
set_option maxRecDepth 100000 in
set_option maxHeartbeats 8000000 in
theorem s_rotate (base G cap N a m b : Nat) (L U V R : List Nm) (cm : Value) (w : World) (hN : (L ++ U ++ V ++ R).length = N) (ha : L.length = a) (hm : L.length + U.length = m) (hb : L.length + U.length + V.length = b) (hn : N ≤ 100000) (hU : 0 < U.length) (hV : 0 < V.length) (H : NmAt w base G cap (L ++ U ++ V ++ R)) :
  Calls Tryz.prog 201 #[.slice (some ⟨G, 0, none⟩) N cap, .int .i64 a, .int .i64 m, .int .i64 b, cm] w
   fun e w' => e = .returned (.tuple #[]) ∧ NmAt w' base G cap (L ++ V ++ U ++ R) ∧ w.grownBy w' (some G) := by
 have hNl : L.length + U.length + V.length + R.length = N := by rw [← hN]; simp; omega
 have e1 : (m : Int) - (a : Int) = (U.length : Int) := by omega
 have e2 : (b : Int) - (m : Int) = (V.length : Int) := by omega
 obtain ⟨T, hT⟩ : ∃ T, L ++ V ++ U ++ R = T := ⟨_, rfl⟩
 rw [hT]
 have hmN : m ≤ N := by omega
 have H0 := Lib.hid (show ∃ L1 U1 V1 R1 : List Nm, U1.length = U.length ∧ V1.length = V.length ∧ L1.length + U1.length = m ∧ L1.length + U1.length + V1.length + R1.length = N ∧ L1 ++ V1 ++ U1 ++ R1 = T ∧ NmAt w base G cap (L1 ++ U1 ++ V1 ++ R1) from ⟨L, U, V, R, rfl, rfl, hm, hNl, hT, H⟩)
 obtain ⟨u0, hu0⟩ : ∃ n, U.length = n := ⟨_, rfl⟩
 obtain ⟨v0, hv0⟩ : ∃ n, V.length = n := ⟨_, rfl⟩
 rw [hu0] at H0 hU e1
 rw [hv0] at H0 hV e2
 have hu9 : u0 ≤ N := by omega
 have hv9 : v0 ≤ N := by omega
 have ha9 : a ≤ N := by omega
 have hb9 : b ≤ N := by omega
 clear hT H hN ha hm hb hNl hu0 hv0
 go_enter Tryz.func201, Tryz.ntmps201
 go_wp2_with fail
 go_loopw [10, 11] (fun i j wr => ∃ u v : Nat, 0 < u ∧ 0 < v ∧ u ≤ N ∧ v ≤ N ∧ i = .int .i64 u ∧ j = .int .i64 v ∧ Hid (∃ L1 U1 V1 R1 : List Nm, U1.length = u ∧ V1.length = v ∧ L1.length + U1.length = m ∧ L1.length + U1.length + V1.length + R1.length = N ∧ L1 ++ V1 ++ U1 ++ R1 = T ∧ NmAt wr base G cap (L1 ++ U1 ++ V1 ++ R1)) ∧ Hid (w.grownBy wr (some G))) (fun i j _ => (intOf i).toNat + (intOf j).toNat)
 case atStart => exact ⟨u0, v0, hU, hV, hu9, hv9, rfl, rfl, H0, Lib.hid (grown_refl w _)⟩
 case round =>
  clear H0 hU hV hu9 hv9 e1 e2
  obtain ⟨u, v, hu, hv, hu9, hv9, rfl, rfl, HK, HG⟩ := hrel
  obtain ⟨L1, U1, V1, R1, q1, q2, q3, q4, q5, q6⟩ := HK.out
  have HT := Lib.hid q5
  have HM := Lib.hid q6
  clear HK q5 q6
  obtain ⟨p, hp⟩ : ∃ n, L1.length = n := ⟨_, rfl⟩
  have e3 : (m : Int) - (u : Int) = (p : Int) := by omega
  have hp9 : p ≤ N := by omega
  have HQ := Lib.hid (And.intro q1 (And.intro q2 (And.intro q3 (And.intro q4 hp))))
  clear q1 q2 q3 q4 hp
  by_cases heq : u = v
  ·subst heq
   have HS := Lib.hid (s_swapRange' base G cap N p m u L1 U1 [] V1 R1 cm wr (by rw [HQ.out.1, HQ.out.2.1]) (by have := HQ.out.2.2.2.1; simp; omega) HQ.out.2.2.2.2 (by have := HQ.out.2.2.1; simp; omega) HQ.out.1 hn (by simpa using HM.out))
   go_wp2_with fail
   refine HS.out.mono ?_
   rintro e w2 ⟨rfl, h1, h2⟩
   have HF := Lib.hid (And.intro h1 (grown_same HG.out h2))
   clear h1 h2 HS
   go_wp2_with fail
   go_end0
   refine ⟨rfl, ?_, HF.out.2⟩
   rw [← HT.out]
   simpa using HF.out.1
  ·have hne : ((u : Int) == (v : Int)) = false := by rw [beq_eq_false_iff_ne]; omega
   have hne2 : ((u : Int) != (v : Int)) = true := by rw [bne_iff_ne]; omega
   by_cases hgt : v < u
   ·have hgt2 : (v : Int) < (u : Int) := by omega
    have e4 : (u : Int) - (v : Int) = ((u - v : Nat) : Int) := by omega
    have HS := Lib.hid (s_swapRange' base G cap N p m v L1 (U1.take v) (U1.drop v) V1 R1 cm wr (by rw [List.length_take, HQ.out.1, HQ.out.2.1]; omega) (by have := HQ.out; simp; omega) HQ.out.2.2.2.2 (by have := HQ.out; rw [List.length_take, List.length_drop]; omega) (by rw [List.length_take, HQ.out.1]; omega) hn (by have := HM.out; rw [← List.take_append_drop v U1] at this; simpa using this))
    go_wp2_with fail
    refine HS.out.mono ?_
    rintro e w2 ⟨rfl, h1, h2⟩
    have HF := Lib.hid (And.intro h1 (grown_same HG.out h2))
    clear h1 h2 HS
    go_wp2_with fail
    refine ⟨⟨u - v, v, by omega, hv, by omega, hv9, by go_num, rfl, Lib.hid ⟨L1 ++ V1, U1.drop v, U1.take v, R1, ?_, ?_, ?_, ?_, ?_, ?_⟩, Lib.hid HF.out.2⟩, by simp only [intOf]; omega⟩
    ·rw [List.length_drop, HQ.out.1]
    ·rw [List.length_take, HQ.out.1]; omega
    ·have := HQ.out; rw [List.length_append, List.length_drop]; omega
    ·have := HQ.out; rw [List.length_append, List.length_drop, List.length_take]; omega
    ·rw [← HT.out]
     have := List.take_append_drop v U1
     simp only [List.append_assoc]
     rw [← List.append_assoc (U1.take v), this]
    ·have := HF.out.1; simpa using this
   ·have hlt : u < v := by omega
    have hgt2 : ¬ (v : Int) < (u : Int) := by omega
    have e4 : (v : Int) - (u : Int) = ((v - u : Nat) : Int) := by omega
    have e5 : (m : Int) + (v : Int) - (u : Int) = ((m + v - u : Nat) : Int) := by omega
    have HS := Lib.hid (s_swapRange' base G cap N p (m + v - u) u L1 U1 (V1.take (v - u)) (V1.drop (v - u)) R1 cm wr (by rw [List.length_drop, HQ.out.1, HQ.out.2.1]; omega) (by have := HQ.out; simp; omega) HQ.out.2.2.2.2 (by have := HQ.out; rw [List.length_take]; omega) HQ.out.1 hn (by have := HM.out; rw [← List.take_append_drop (v - u) V1] at this; simpa using this))
    go_wp2_with fail
    refine HS.out.mono ?_
    rintro e w2 ⟨rfl, h1, h2⟩
    have HF := Lib.hid (And.intro h1 (grown_same HG.out h2))
    clear h1 h2 HS
    go_wp2_with fail
    refine ⟨⟨u, v - u, hu, by omega, hu9, by omega, rfl, by go_num, Lib.hid ⟨L1, V1.drop (v - u), V1.take (v - u), U1 ++ R1, ?_, ?_, ?_, ?_, ?_, ?_⟩, Lib.hid HF.out.2⟩, by simp only [intOf]; omega⟩
    ·rw [List.length_drop, HQ.out.2.1]; omega
    ·rw [List.length_take, HQ.out.2.1]; omega
    ·have := HQ.out; rw [List.length_drop]; omega
    ·have := HQ.out; rw [List.length_drop, List.length_take, List.length_append]; omega
    ·rw [← HT.out]
     have := List.take_append_drop (v - u) V1
     simp only [List.append_assoc]
     rw [← List.append_assoc (V1.take (v - u)), this]
    ·have := HF.out.1; simpa using this
end Go.Proofs.YthppifcggmdmoaaGreatDoor
namespace Go.Proofs.YthppifcggmdmoaaGreatDoor
open Go.RowKit Go.Sort
set_option linter.unusedVariables false
theorem cmpI_neg (x y : Int) : decide (Lib.compareInt x y < 0) = decide (x < y) := by
 unfold Lib.compareInt
 repeat' split
 all_goals first | (simp; omega) | simp_all
theorem cmpI_lt {x y : Int} (h : x < y) : Lib.compareInt x y < 0 := by have := cmpI_neg x y; simpa [h] using this
theorem cmpI_ge {x y : Int} (h : ¬ x < y) : ¬ Lib.compareInt x y < 0 := by have := cmpI_neg x y; simpa [h] using this
set_option maxRecDepth 100000 in
set_option maxHeartbeats 4000000 in
theorem nm_cmp (x1 y1 : Int) (x2 y2 : Option Addr) (w : World) :
  Calls Tryz.prog 129 #[.agg #[.int .i64 x1, .pointer x2], .agg #[.int .i64 y1, .pointer y2]] w fun e w' => e = .returned (.int .i64 (Lib.compareInt x1 y1)) ∧ ∃ q os', w' = grow (w.drewN q) os' := by
 go_enter Tryz.func129, Tryz.ntmps129
 go_wp2_with fail
 go_at_call 130
 refine (Tryz.cmp_Compare_int x1 y1 _).mono ?_
 rintro e w1 ⟨rfl, rfl⟩
 go_wp2_with fail
 refine bodyPost_ret (by simp only [results, Tryz.results129]; simp [go_sem]) rfl ⟨rfl, 0, _, by rw [alloc_eq_grow, alloc_eq_grow, grow_grow]; rfl⟩
theorem NmAt.grow {w : World} {base G cap : Nat} {xs : List Nm} (h : NmAt w base G cap xs) (n : Nat) (os : Array Obj) : NmAt (grow (w.drewN n) os) base G cap xs := by
 have hk : w.grownBy (Go.Sort.grow (w.drewN n) os) none := ⟨rfl, rfl, rfl, by rw [size_grow]; exact Nat.le_add_right _ _, fun k hk _ => heap_grow_old _ _ hk⟩
 exact World.ownsRow.kept h hk (Or.inr (by simp [Value.ownBlock]))
theorem grown_grow {w w1 : World} {r : Option Nat} (h : w.grownBy w1 r) (n : Nat) (os : Array Obj) : w.grownBy (Go.Sort.grow (w1.drewN n) os) r :=
 ⟨h.os, h.tape, h.output, Nat.le_trans h.size (by rw [size_grow]; exact Nat.le_add_right _ _), fun k hk hne => (heap_grow_old _ _ (Nat.lt_of_lt_of_le hk h.size)).trans (h.block k hk hne)⟩
theorem grown_drew {w w1 : World} {r : Option Nat} (h : w.grownBy w1 r) : w.grownBy w1.drew r := ⟨h.os, h.tape, h.output, h.size, h.block⟩
theorem NmAt.seen {w : World} {base G cap : Nat} {xs : List Nm} (h : NmAt w base G cap xs) {k : Nat} {x : Nm} (hg : xs[k]? = some x) : (∀ n os, (Go.Sort.grow (w.drewN n) os).cell? ⟨G, k * 2, none⟩ = some (.int .i64 x.1)) ∧ (∀ n os, (Go.Sort.grow (w.drewN n) os).cell? ⟨G, k * 2 + 1, none⟩ = some (.pointer x.2)) :=
 ⟨fun n os => ((h.grow n os).cell' hg).1, fun n os => ((h.grow n os).cell' hg).2⟩
theorem NmAt.swap {w : World} {base G cap : Nat} {xs : List Nm} (h : NmAt w base G cap xs) {i j : Nat} {x y : Nm} (hi : i < xs.length) (hj : j < xs.length) :
  NmAt ((((w.setCell ⟨G, i * 2, none⟩ (.int .i64 y.1)).setCell ⟨G, i * 2 + 1, none⟩ (.pointer y.2)).setCell ⟨G, j * 2, none⟩ (.int .i64 x.1)).setCell ⟨G, j * 2 + 1, none⟩ (.pointer x.2)) base G cap ((xs.set i y).set j x) :=
 (h.put hi y).put (by rw [List.length_set]; exact hj) x
theorem grown_swap {w : World} {G : Nat} (i1 i2 i3 i4 : Nat) (v1 v2 v3 v4 : Value) : w.grownBy ((((w.setCell ⟨G, i1, none⟩ v1).setCell ⟨G, i2, none⟩ v2).setCell ⟨G, i3, none⟩ v3).setCell ⟨G, i4, none⟩ v4) (some G) := by
 have hj : ∀ (W : World) (a : Addr) (v : Value), a.block = G → w.grownBy W (some G) → w.grownBy (W.setCell a v) (some G) := fun W a v ha h => h.andThen (grown_set2 W a v) (fun j hj => Or.inr (by rw [← hj, ha]))
 exact hj _ _ _ rfl (hj _ _ _ rfl (hj _ _ _ rfl (hj _ _ _ rfl (grown_refl w _))))
theorem sw2_up (X Y : List Nm) (p q : Nm) {n : Nat} (h : n = X.length) : ((X ++ p :: q :: Y).set n q).set (n + 1) p = X ++ q :: p :: Y := by
 rw [set_at X (q :: Y) p q h]
 have := set_at (X ++ [q]) Y q p (n := n + 1) (by simp [h])
 simpa using this
theorem sw2_dn (X Y : List Nm) (p q : Nm) {n : Nat} (h : n = X.length) : ((X ++ p :: q :: Y).set (n + 1) p).set n q = X ++ q :: p :: Y := by
 rw [List.set_comm _ _ (by omega)]
 exact sw2_up X Y p q h
def NmS (l : List Nm) : Prop := l.Pairwise (fun p q => p.1 ≤ q.1)
theorem nms_take {l : List Nm} (h : NmS l) {k : Nat} (hk : k < l.length) {x : Int} (hx : l[k].1 < x) : ∀ p ∈ l.take (k + 1), p.1 < x := by
 intro p hp
 obtain ⟨i, hi, rfl⟩ := List.getElem_of_mem hp
 rw [List.length_take] at hi
 rw [List.getElem_take]
 by_cases he : i = k
 ·subst he; exact hx
 ·have := List.pairwise_iff_getElem.1 h i k (by omega) hk (by omega)
  omega
theorem nms_takele {l : List Nm} (h : NmS l) {k : Nat} (hk : k < l.length) {x : Int} (hx : l[k].1 ≤ x) : ∀ p ∈ l.take (k + 1), p.1 ≤ x := by
 intro p hp
 obtain ⟨i, hi, rfl⟩ := List.getElem_of_mem hp
 rw [List.length_take] at hi
 rw [List.getElem_take]
 by_cases he : i = k
 ·subst he; exact hx
 ·have := List.pairwise_iff_getElem.1 h i k (by omega) hk (by omega)
  omega
theorem nms_drop {l : List Nm} (h : NmS l) {k : Nat} (hk : k < l.length) {x : Int} (hx : x ≤ l[k].1) : ∀ p ∈ l.drop k, x ≤ p.1 := by
 intro p hp
 obtain ⟨i, hi, rfl⟩ := List.getElem_of_mem hp
 rw [List.length_drop] at hi
 rw [List.getElem_drop]
 by_cases he : i = 0
 ·subst he; simpa using hx
 ·have := List.pairwise_iff_getElem.1 h k (k + i) hk (by omega) (by omega)
  omega
theorem nms_droplt {l : List Nm} (h : NmS l) {k : Nat} (hk : k < l.length) {x : Int} (hx : x < l[k].1) : ∀ p ∈ l.drop k, x < p.1 := by
 intro p hp
 have := nms_drop h hk (x := x + 1) (by omega) p hp
 omega
end Go.Proofs.YthppifcggmdmoaaGreatDoor
namespace Go.Proofs.YthppifcggmdmoaaGreatDoor
open Go.RowKit Go.Sort
set_option linter.unusedVariables false
theorem so_get (L B R : List Nm) (x : Nm) {h a : Nat} (ha : L.length = a) (hh : h < B.length) : (L ++ x :: (B ++ R))[a + 1 + h]? = some B[h] := by
 rw [List.getElem?_append_right (by omega), show a + 1 + h - L.length = h + 1 by omega, List.getElem?_cons_succ, List.getElem?_append_left hh, List.getElem?_eq_getElem hh]
theorem so_get0 (L T : List Nm) (x : Nm) {a : Nat} (ha : L.length = a) : (L ++ x :: T)[a]? = some x := by
 rw [List.getElem?_append_right (by omega), show a - L.length = 0 by omega, List.getElem?_cons_zero]
set_option maxRecDepth 100000 in
set_option maxHeartbeats 8000000 in
theorem s_sym_one (base G cap N a m b : Nat) (L B R : List Nm) (x : Nm) (w : World) (hN : (L ++ x :: (B ++ R)).length = N) (ha : L.length = a) (hma : a + 1 = m) (hb : a + 1 + B.length = b) (hn : N ≤ 100000) (hs : NmS B) (H : NmAt w base G cap (L ++ x :: (B ++ R))) :
  Calls Tryz.prog 186 #[.slice (some ⟨G, 0, none⟩) N cap, .int .i64 a, .int .i64 m, .int .i64 b, .func (.func 129) #[] #[]] w
   fun e w' => e = .returned (.tuple #[]) ∧ NmAt w' base G cap (L ++ (smerge Prod.fst [x] B ++ R)) ∧ w.grownBy w' (some G) := by
 have hNl : a + 1 + B.length + R.length = N := by rw [← hN, ← ha]; simp; omega
 obtain ⟨nb, hnb⟩ : ∃ n, B.length = n := ⟨_, rfl⟩
 rw [hnb] at hNl hb
 have HB := Lib.hid hnb
 have HA := Lib.hid ha
 have HN := Lib.hid hN
 have HS := Lib.hid hs
 have H0 := Lib.hid H
 have hcap := Lib.hid H.caps
 have e1 : (m : Int) - (a : Int) = 1 := by omega
 have ham : a ≤ m := by omega
 have hbN : b ≤ N := by omega
 have HM := Lib.hid hma
 have HBB := Lib.hid hb
 have HNL := Lib.hid hNl
 have hmN : m ≤ b := by omega
 clear hnb ha hN hs H hma hb hNl
 have mixed : Tryz.prog.follows .mixedOrders = true := by kernel_rfl
 go_enter Tryz.func186, Tryz.ntmps186
 go_wp2_with fail
 go_loopw [10, 11] (fun i j wr => ∃ p q : Nat, m ≤ p ∧ p ≤ q ∧ q ≤ b ∧ i = .int .i64 p ∧ j = .int .i64 q ∧ Hid ((∀ t ∈ B.take (p - m), t.1 < x.1) ∧ (∀ t ∈ B.drop (q - m), x.1 ≤ t.1)) ∧ Hid (NmAt wr base G cap (L ++ x :: (B ++ R))) ∧ Hid (w.grownBy wr (some G))) (fun i j _ => (intOf j).toNat - (intOf i).toNat)
 case atStart => exact ⟨m, b, Nat.le_refl _, by omega, Nat.le_refl _, rfl, rfl, Lib.hid ⟨by simp, by rw [List.drop_eq_nil_of_le (by rw [HB.out]; have := HBB.out; have := HM.out; omega)]; simp⟩, H0, Lib.hid (grown_refl w _)⟩
 case round =>
  clear H0
  obtain ⟨p, q, hmp, hpq, hqb, rfl, rfl, HK, HW, HG⟩ := hrel
  by_cases hlt : p < q
  ·obtain ⟨h, hh⟩ : ∃ h, (p + q) / 2 = h := ⟨_, rfl⟩
   have hp1 : p ≤ h := by omega
   have hq1 : h < q := by omega
   have hB : h - m < B.length := by rw [HB.out]; have := HBB.out; have := HM.out; omega
   have g1 := so_get L B R x (h := h - m) HA.out hB
   have g2 := so_get0 L (B ++ R) x HA.out
   rw [HM.out, show m + (h - m) = h by omega] at g1
   obtain ⟨y, hy⟩ : ∃ y, B[h - m] = y := ⟨_, rfl⟩
   rw [hy] at g1
   obtain ⟨c10, c11⟩ := HW.out.seen g1
   obtain ⟨c20, c21⟩ := HW.out.seen g2
   have HY := Lib.hid hy
   clear g1 g2 hy
   have hc2 := hcap.out.2
   unfold maxLen at hc2
   have i1 : (0 : Int) ≤ (h : Int) := by omega
   have i2 : (h : Int) < (N : Int) := by omega
   have i3 : (a : Int) < (N : Int) := by have := HM.out; omega
   have cv1 : IntKind.u64.wrap ((p : Int) + (q : Int)) = (p : Int) + (q : Int) := by rw [IntKind.wrap_u64]; omega
   have hd : ((p : Int) + (q : Int)) / 2 = (h : Int) := by omega
   obtain ⟨xa, xp⟩ := x
   obtain ⟨ya, yp⟩ := y
   simp only at c10 c11 c20 c21
   by_cases hyx : ya < xa
   ·have hc := cmpI_lt hyx
    go_wp2_with fail
    go_quiet_grown (first | (go_at_call 129; exact Calls.grown_of (nm_cmp _ _ _ _ _)))
    clear c10 c11 c20 c21
    have HF := Lib.hid (And.intro (HW.out.grow nq osq) (grown_grow HG.out nq osq))
    generalize Go.Sort.grow (wr.drewN nq) osq = W at HF ⊢
    go_wp2_with fail
    refine ⟨⟨h + 1, q, by omega, by omega, hqb, by go_num, rfl, Lib.hid ⟨?_, HK.out.2⟩, Lib.hid HF.out.1, Lib.hid HF.out.2⟩, by simp only [intOf]; omega⟩
    have := nms_take HS.out hB (x := xa) (by rw [HY.out]; exact hyx)
    rwa [show h + 1 - m = h - m + 1 by omega]
   ·have hc := cmpI_ge hyx
    go_wp2_with fail
    go_quiet_grown (first | (go_at_call 129; exact Calls.grown_of (nm_cmp _ _ _ _ _)))
    clear c10 c11 c20 c21
    have HF := Lib.hid (And.intro (HW.out.grow nq osq) (grown_grow HG.out nq osq))
    generalize Go.Sort.grow (wr.drewN nq) osq = W at HF ⊢
    go_wp2_with fail
    refine ⟨⟨p, h, hmp, by omega, by omega, rfl, by go_num, Lib.hid ⟨HK.out.1, ?_⟩, Lib.hid HF.out.1, Lib.hid HF.out.2⟩, by simp only [intOf]; omega⟩
    exact nms_drop HS.out hB (x := xa) (by rw [HY.out]; simp only; omega)
  ·obtain rfl : p = q := by omega
   clear HS
   have hpm1 : (0 : Int) ≤ (p : Int) - 1 := by omega
   obtain ⟨J, hJ⟩ : ∃ J, p - m = J := ⟨_, rfl⟩
   rw [hJ] at HK
   have hpJ : p = a + 1 + J := by have := HM.out; omega
   have hJB : J ≤ B.length := by rw [HB.out]; have := HBB.out; omega
   obtain ⟨B1, hB1⟩ : ∃ l, B.take J = l := ⟨_, rfl⟩
   obtain ⟨B2, hB2⟩ : ∃ l, B.drop J = l := ⟨_, rfl⟩
   rw [hB1, hB2] at HK
   have hl1 : B1.length = J := by rw [← hB1, List.length_take]; omega
   have hBB : B = B1 ++ B2 := by rw [← hB1, ← hB2, List.take_append_drop]
   have HBq := Lib.hid hBB
   have HL1 := Lib.hid hl1
   have HW0 := Lib.hid (show NmAt wr base G cap ((L ++ B1.take 0) ++ x :: (B1.drop 0 ++ (B2 ++ R))) by have := HW.out; rw [hBB] at this; simpa using this)
   obtain ⟨z, hz⟩ : ∃ z, a + J = z := ⟨_, rfl⟩
   have e9 : (p : Int) - 1 = (z : Int) := by omega
   have hzN : z + 1 ≤ N := by omega
   have haz : a ≤ z := by omega
   have HZ := Lib.hid hz
   have HGG := Lib.hid HG.out
   clear HW hB1 hB2 hBB hl1 hJ HG hpJ hz hJB
   go_wp2_with fail
   go_loopw [13] (fun i wr => ∃ r : Nat, a ≤ r ∧ r ≤ z ∧ i = .int .i64 r ∧ Hid (NmAt wr base G cap ((L ++ B1.take (r - a)) ++ x :: (B1.drop (r - a) ++ (B2 ++ R)))) ∧ Hid (w.grownBy wr (some G))) (fun i _ => z - (intOf i).toNat)
   case atStart => exact ⟨a, Nat.le_refl _, haz, rfl, by rw [Nat.sub_self]; exact HW0, HGG⟩
   case round =>
    clear HW0 HGG
    obtain ⟨r, har, hrz, rfl, HW, HG⟩ := hrel
    by_cases hlk : r < z
    ·obtain ⟨k, hk⟩ : ∃ k, r - a = k := ⟨_, rfl⟩
     rw [hk] at HW
     have hk1 : k < B1.length := by rw [HL1.out]; have := HZ.out; omega
     have HKK := Lib.hid hk
     obtain ⟨y, hy⟩ : ∃ y, B1[k] = y := ⟨_, rfl⟩
     have hdr : B1.drop k = y :: B1.drop (k + 1) := by rw [List.drop_eq_getElem_cons hk1, hy]
     have htk : B1.take (k + 1) = B1.take k ++ [y] := by rw [List.take_succ_eq_append_getElem hk1, hy]
     have hlen : (L ++ B1.take k).length = r := by rw [List.length_append, List.length_take, HA.out]; omega
     have HX := Lib.hid (show NmAt wr base G cap ((L ++ B1.take k) ++ x :: y :: (B1.drop (k + 1) ++ (B2 ++ R))) by have := HW.out; rw [hdr] at this; exact this)
     have g1 : ((L ++ B1.take k) ++ x :: y :: (B1.drop (k + 1) ++ (B2 ++ R)))[r]? = some x := so_get0 _ _ x hlen
     have g2 : ((L ++ B1.take k) ++ x :: y :: (B1.drop (k + 1) ++ (B2 ++ R)))[r + 1]? = some y := by
      rw [List.getElem?_append_right (by omega), show r + 1 - (L ++ B1.take k).length = 1 by omega]; rfl
     have hS0 := HX.out.swap (i := r) (j := r + 1) (x := x) (y := y) (by have := (List.getElem?_eq_some_iff.1 g1).1; exact this) (by have := (List.getElem?_eq_some_iff.1 g2).1; exact this)
     rw [sw2_up _ _ x y hlen.symm] at hS0
     have HS0 := Lib.hid hS0
     obtain ⟨c10, c11⟩ := HX.out.cell' g1
     obtain ⟨c20, c21⟩ := HX.out.cell' g2
     have z10 := HX.out.frz ((r) * 2)
     have z11 := HX.out.frz ((r) * 2 + 1)
     have z20 := HX.out.frz ((r + 1) * 2)
     have z21 := HX.out.frz ((r + 1) * 2 + 1)
     have zl := HX.out.lt.2
     have hc2 := hcap.out.2
     unfold maxLen at hc2
     have HT := Lib.hid (show (L ++ B1.take k) ++ y :: x :: (B1.drop (k + 1) ++ (B2 ++ R)) = (L ++ B1.take (k + 1)) ++ x :: (B1.drop (k + 1) ++ (B2 ++ R)) by rw [htk]; simp)
     have i1 : (0 : Int) ≤ ((r : Nat) : Int) := by omega
     have i2 : ((r : Nat) : Int) < (N : Int) := by omega
     have i3 : (0 : Int) ≤ ((r : Nat) : Int) + 1 := by omega
     have i4 : ((r : Nat) : Int) + 1 < (N : Int) := by omega
     clear g1 g2 hS0 hy hdr htk hlen hk hk1
     obtain ⟨xa, xp⟩ := x
     obtain ⟨ya, yp⟩ := y
     simp only at c10 c11 c20 c21
     go_wp2_with fail
     go_region
     have HF := Lib.hid (And.intro HS0.out (grown_same HG.out (grown_swap (w := wr) (G := G) ((r) * 2) ((r) * 2 + 1) ((r + 1) * 2) ((r + 1) * 2 + 1) (.int .i64 ya) (.pointer yp) (.int .i64 xa) (.pointer xp))))
     clear c10 c11 c20 c21 z10 z11 z20 z21 HS0 zl HX HW
     obtain ⟨V, hV⟩ : ∃ V, (((wr.setCell ⟨G, (r) * 2, none⟩ (.int .i64 ya)).setCell ⟨G, (r) * 2 + 1, none⟩ (.pointer yp)).setCell ⟨G, (r + 1) * 2, none⟩ (.int .i64 xa)).setCell ⟨G, (r + 1) * 2 + 1, none⟩ (.pointer xp) = V := ⟨_, rfl⟩
     rw [hV] at HF ⊢
     clear hV
     go_wp2_with fail
     exact ⟨⟨r + 1, by omega, by omega, by go_num, Lib.hid (by have := HF.out.1; rw [HT.out] at this; rw [show r + 1 - a = k + 1 by have := HKK.out; omega]; exact World.ownsRow.kept this (grown_drew (grown_refl V none)) (Or.inr (by simp [Value.ownBlock]))), Lib.hid (grown_drew HF.out.2)⟩, by simp only [intOf]; omega⟩
    ·obtain rfl : r = z := by omega
     go_wp2_with fail
     refine bodyPost_ret (results_none rfl _ _ _) rfl ?_
     refine ⟨rfl, ?_, HG.out⟩
     have hh := HW.out
     have hJz : r - a = J := by have := HZ.out; omega
     rw [hJz] at hh
     rw [List.take_of_length_le (by rw [HL1.out]; omega), List.drop_eq_nil_of_le (by rw [HL1.out]; omega)] at hh
     rw [HBq.out, smerge_one Prod.fst B1 B2 x HK.out.1 HK.out.2]
     simpa using hh
end Go.Proofs.YthppifcggmdmoaaGreatDoor
namespace Go.Proofs.YthppifcggmdmoaaGreatDoor
open Go.RowKit Go.Sort
set_option linter.unusedVariables false
theorem sl_get (L A T : List Nm) {h a : Nat} (ha : L.length = a) (hh : h < A.length) : (L ++ (A ++ T))[a + h]? = some A[h] := by
 rw [List.getElem?_append_right (by omega), show a + h - L.length = h by omega, List.getElem?_append_left hh, List.getElem?_eq_getElem hh]
theorem sl_get0 (L A T : List Nm) (y : Nm) {m : Nat} (hm : L.length + A.length = m) : (L ++ (A ++ y :: T))[m]? = some y := by
 rw [← List.append_assoc]; exact so_get0 _ _ _ (by simp; omega)
set_option maxRecDepth 100000 in
set_option maxHeartbeats 8000000 in
theorem s_sym_last (base G cap N a m b : Nat) (L A R : List Nm) (y : Nm) (w : World) (hN : (L ++ (A ++ y :: R)).length = N) (ha : L.length = a) (hma : a + A.length = m) (hb : m + 1 = b) (hn : N ≤ 100000) (hA1 : A.length ≠ 1) (hs : NmS A) (H : NmAt w base G cap (L ++ (A ++ y :: R))) :
  Calls Tryz.prog 186 #[.slice (some ⟨G, 0, none⟩) N cap, .int .i64 a, .int .i64 m, .int .i64 b, .func (.func 129) #[] #[]] w
   fun e w' => e = .returned (.tuple #[]) ∧ NmAt w' base G cap (L ++ (smerge Prod.fst A [y] ++ R)) ∧ w.grownBy w' (some G) := by
 have hNl : a + A.length + 1 + R.length = N := by rw [← hN, ← ha]; simp; omega
 obtain ⟨na, hna⟩ : ∃ n, A.length = n := ⟨_, rfl⟩
 rw [hna] at hNl hma hA1
 have HB := Lib.hid hna
 have HA := Lib.hid ha
 have HN := Lib.hid hN
 have HS := Lib.hid hs
 have H0 := Lib.hid H
 have hcap := Lib.hid H.caps
 have e0 : ((m : Int) - (a : Int) == 1) = false := by rw [beq_eq_false_iff_ne]; omega
 have e1 : (b : Int) - (m : Int) = 1 := by omega
 have ham : a ≤ m := by omega
 have hbN : b ≤ N := by omega
 have HM := Lib.hid hma
 have HBB := Lib.hid hb
 have HNL := Lib.hid hNl
 have hmN : m < N := by omega
 clear hna ha hN hs H hma hNl hA1 hb
 have mixed : Tryz.prog.follows .mixedOrders = true := by kernel_rfl
 go_enter Tryz.func186, Tryz.ntmps186
 go_wp2_with fail
 go_loopw [14, 15] (fun i j wr => ∃ p q : Nat, a ≤ p ∧ p ≤ q ∧ q ≤ m ∧ i = .int .i64 p ∧ j = .int .i64 q ∧ Hid ((∀ t ∈ A.take (p - a), t.1 ≤ y.1) ∧ (∀ t ∈ A.drop (q - a), y.1 < t.1)) ∧ Hid (NmAt wr base G cap (L ++ (A ++ y :: R))) ∧ Hid (w.grownBy wr (some G))) (fun i j _ => (intOf j).toNat - (intOf i).toNat)
 case atStart => exact ⟨a, m, Nat.le_refl _, ham, Nat.le_refl _, rfl, rfl, Lib.hid ⟨by simp, by rw [List.drop_eq_nil_of_le (by rw [HB.out]; have := HM.out; omega)]; simp⟩, H0, Lib.hid (grown_refl w _)⟩
 case round =>
  clear H0
  obtain ⟨p, q, hmp, hpq, hqb, rfl, rfl, HK, HW, HG⟩ := hrel
  by_cases hlt : p < q
  ·obtain ⟨h, hh⟩ : ∃ h, (p + q) / 2 = h := ⟨_, rfl⟩
   have hp1 : p ≤ h := by omega
   have hq1 : h < q := by omega
   have hB : h - a < A.length := by rw [HB.out]; have := HM.out; omega
   have g1 := sl_get L A (y :: R) (h := h - a) HA.out hB
   have g2 := sl_get0 L A R y (m := m) (by rw [HA.out, HB.out]; exact HM.out)
   rw [show a + (h - a) = h by omega] at g1
   obtain ⟨x, hx⟩ : ∃ x, A[h - a] = x := ⟨_, rfl⟩
   rw [hx] at g1
   obtain ⟨c10, c11⟩ := HW.out.seen g1
   obtain ⟨c20, c21⟩ := HW.out.seen g2
   have HY := Lib.hid hx
   clear g1 g2 hx
   have hc2 := hcap.out.2
   unfold maxLen at hc2
   have i1 : (0 : Int) ≤ (h : Int) := by omega
   have i2 : (h : Int) < (N : Int) := by omega
   have i3 : (m : Int) < (N : Int) := by omega
   have cv1 : IntKind.u64.wrap ((p : Int) + (q : Int)) = (p : Int) + (q : Int) := by rw [IntKind.wrap_u64]; omega
   have hd : ((p : Int) + (q : Int)) / 2 = (h : Int) := by omega
   obtain ⟨xa, xp⟩ := x
   obtain ⟨ya, yp⟩ := y
   simp only at c10 c11 c20 c21
   by_cases hyx : ya < xa
   ·have hc := cmpI_lt hyx
    go_wp2_with fail
    go_quiet_grown (first | (go_at_call 129; exact Calls.grown_of (nm_cmp _ _ _ _ _)))
    clear c10 c11 c20 c21
    have HF := Lib.hid (And.intro (HW.out.grow nq osq) (grown_grow HG.out nq osq))
    generalize Go.Sort.grow (wr.drewN nq) osq = W at HF ⊢
    go_wp2_with fail
    refine ⟨⟨p, h, hmp, by omega, by omega, rfl, by go_num, Lib.hid ⟨HK.out.1, ?_⟩, Lib.hid HF.out.1, Lib.hid HF.out.2⟩, by simp only [intOf]; omega⟩
    exact nms_droplt HS.out hB (x := ya) (by rw [HY.out]; exact hyx)
   ·have hc : decide (Lib.compareInt ya xa < 0) = false := decide_eq_false (cmpI_ge hyx)
    go_wp2_with fail
    go_quiet_grown (first | (go_at_call 129; exact Calls.grown_of (nm_cmp _ _ _ _ _)))
    clear c10 c11 c20 c21
    have HF := Lib.hid (And.intro (HW.out.grow nq osq) (grown_grow HG.out nq osq))
    generalize Go.Sort.grow (wr.drewN nq) osq = W at HF ⊢
    go_wp2_with fail
    refine ⟨⟨h + 1, q, by omega, by omega, hqb, by go_num, rfl, Lib.hid ⟨?_, HK.out.2⟩, Lib.hid HF.out.1, Lib.hid HF.out.2⟩, by simp only [intOf]; omega⟩
    have := nms_takele HS.out hB (x := ya) (by rw [HY.out]; simp only; omega)
    rwa [show h + 1 - a = h - a + 1 by omega]
  ·obtain rfl : p = q := by omega
   clear HS
   obtain ⟨J, hJ⟩ : ∃ J, p - a = J := ⟨_, rfl⟩
   rw [hJ] at HK
   have hJB : J ≤ A.length := by rw [HB.out]; have := HM.out; omega
   obtain ⟨B1, hB1⟩ : ∃ l, A.take J = l := ⟨_, rfl⟩
   obtain ⟨B2, hB2⟩ : ∃ l, A.drop J = l := ⟨_, rfl⟩
   rw [hB1, hB2] at HK
   have hl1 : B1.length = J := by rw [← hB1, List.length_take]; omega
   have hl2 : B2.length = m - p := by rw [← hB2, List.length_drop, HB.out]; have := HM.out; omega
   have hBB : A = B1 ++ B2 := by rw [← hB1, ← hB2, List.take_append_drop]
   have HBq := Lib.hid hBB
   have HL2 := Lib.hid hl2
   have HLP := Lib.hid (show (L ++ B1).length = p by rw [List.length_append, HA.out, hl1]; omega)
   have HW0 := Lib.hid (show NmAt wr base G cap (((L ++ B1) ++ B2.take (m - p)) ++ y :: (B2.drop (m - p) ++ R)) by have := HW.out; rw [hBB] at this; rw [List.take_of_length_le (by omega), List.drop_eq_nil_of_le (by omega)]; simpa using this)
   have HGG := Lib.hid HG.out
   clear HW hB1 hB2 hBB hl1 hl2 hJ HG hJB
   go_wp2_with fail
   go_loopw [17] (fun i wr => ∃ r : Nat, p ≤ r ∧ r ≤ m ∧ i = .int .i64 r ∧ Hid (NmAt wr base G cap (((L ++ B1) ++ B2.take (r - p)) ++ y :: (B2.drop (r - p) ++ R))) ∧ Hid (w.grownBy wr (some G))) (fun i _ => (intOf i).toNat)
   case atStart => exact ⟨m, by omega, Nat.le_refl _, rfl, HW0, HGG⟩
   case round =>
    clear HW0 HGG
    obtain ⟨r, hpr, hrm, rfl, HW, HG⟩ := hrel
    by_cases hlk : p < r
    ·obtain ⟨s, rfl⟩ : ∃ s, r = s + 1 := ⟨r - 1, by omega⟩
     obtain ⟨k, hk⟩ : ∃ k, s - p = k := ⟨_, rfl⟩
     rw [show s + 1 - p = k + 1 by omega] at HW
     have hk1 : k < B2.length := by rw [HL2.out]; omega
     have HKK := Lib.hid hk
     obtain ⟨x, hx⟩ : ∃ x, B2[k] = x := ⟨_, rfl⟩
     have hdr : B2.drop k = x :: B2.drop (k + 1) := by rw [List.drop_eq_getElem_cons hk1, hx]
     have htk : B2.take (k + 1) = B2.take k ++ [x] := by rw [List.take_succ_eq_append_getElem hk1, hx]
     have hlen : ((L ++ B1) ++ B2.take k).length = s := by rw [List.length_append, List.length_take, HLP.out]; omega
     have HX := Lib.hid (show NmAt wr base G cap (((L ++ B1) ++ B2.take k) ++ x :: y :: (B2.drop (k + 1) ++ R)) by have := HW.out; rw [htk] at this; simpa using this)
     have g1 : (((L ++ B1) ++ B2.take k) ++ x :: y :: (B2.drop (k + 1) ++ R))[s]? = some x := so_get0 _ _ x hlen
     have g2 : (((L ++ B1) ++ B2.take k) ++ x :: y :: (B2.drop (k + 1) ++ R))[s + 1]? = some y := by
      rw [List.getElem?_append_right (by omega), show s + 1 - ((L ++ B1) ++ B2.take k).length = 1 by omega]; rfl
     have hS0 := HX.out.swap (i := s + 1) (j := s) (x := y) (y := x) (by have := (List.getElem?_eq_some_iff.1 g2).1; exact this) (by have := (List.getElem?_eq_some_iff.1 g1).1; exact this)
     rw [sw2_dn _ _ x y hlen.symm] at hS0
     have HS0 := Lib.hid hS0
     obtain ⟨c10, c11⟩ := HX.out.cell' g1
     obtain ⟨c20, c21⟩ := HX.out.cell' g2
     have z10 := HX.out.frz (s * 2)
     have z11 := HX.out.frz (s * 2 + 1)
     have z20 := HX.out.frz ((s + 1) * 2)
     have z21 := HX.out.frz ((s + 1) * 2 + 1)
     have zl := HX.out.lt.2
     have hc2 := hcap.out.2
     unfold maxLen at hc2
     have HT := Lib.hid (show ((L ++ B1) ++ B2.take k) ++ y :: x :: (B2.drop (k + 1) ++ R) = ((L ++ B1) ++ B2.take k) ++ y :: (B2.drop k ++ R) by rw [hdr]; simp)
     have i1 : (0 : Int) ≤ (s : Int) := by omega
     have i2 : (s : Int) < (N : Int) := by omega
     have i3 : (0 : Int) ≤ (s : Int) + 1 := by omega
     have i4 : (s : Int) + 1 < (N : Int) := by omega
     have e5 : (s : Int) + 1 - 1 = (s : Int) := by omega
     clear g1 g2 hS0 hx hdr htk hlen hk hk1
     obtain ⟨xa, xp⟩ := x
     obtain ⟨ya, yp⟩ := y
     simp only at c10 c11 c20 c21
     go_wp2_with fail
     go_region
     have HF := Lib.hid (And.intro HS0.out (grown_same HG.out (grown_swap (w := wr) (G := G) ((s + 1) * 2) ((s + 1) * 2 + 1) (s * 2) (s * 2 + 1) (.int .i64 xa) (.pointer xp) (.int .i64 ya) (.pointer yp))))
     clear c10 c11 c20 c21 z10 z11 z20 z21 HS0 zl HX HW
     obtain ⟨V, hV⟩ : ∃ V, (((wr.setCell ⟨G, (s + 1) * 2, none⟩ (.int .i64 xa)).setCell ⟨G, (s + 1) * 2 + 1, none⟩ (.pointer xp)).setCell ⟨G, s * 2, none⟩ (.int .i64 ya)).setCell ⟨G, s * 2 + 1, none⟩ (.pointer yp) = V := ⟨_, rfl⟩
     rw [hV] at HF ⊢
     clear hV
     go_wp2_with fail
     exact ⟨⟨s, by omega, by omega, by go_num, Lib.hid (by have := HF.out.1; rw [HT.out] at this; rw [show s - p = k from HKK.out]; exact World.ownsRow.kept this (grown_drew (grown_refl V none)) (Or.inr (by simp [Value.ownBlock]))), Lib.hid (grown_drew HF.out.2)⟩, by simp only [intOf]; omega⟩
    ·obtain rfl : r = p := by omega
     go_wp2_with fail
     refine bodyPost_ret (results_none rfl _ _ _) rfl ?_
     refine ⟨rfl, ?_, HG.out⟩
     have hh := HW.out
     rw [Nat.sub_self] at hh
     rw [HBq.out, smerge_in Prod.fst B1 B2 y HK.out.1 HK.out.2]
     simpa using hh
end Go.Proofs.YthppifcggmdmoaaGreatDoor
namespace Go.Proofs.YthppifcggmdmoaaGreatDoor
open Go.RowKit Go.Sort
set_option linter.unusedVariables false
theorem smerge_gen (A B : List Nm) (h i : Nat) (hA : NmS A) (hB : NmS B) (hi : i ≤ A.length) (hih : i ≤ h) (hj : h - i ≤ B.length)
  (c1 : i = 0 ∨ h - i = B.length ∨ ∃ u v, A[i - 1]? = some u ∧ B[h - i]? = some v ∧ u.1 ≤ v.1)
  (c2 : i = A.length ∨ h = i ∨ ∃ u v, A[i]? = some u ∧ B[h - i - 1]? = some v ∧ v.1 < u.1) :
  smerge Prod.fst A B = smerge Prod.fst (A.take i) (B.take (h - i)) ++ smerge Prod.fst (A.drop i) (B.drop (h - i)) := by
 have e1 : smerge Prod.fst A B = smerge Prod.fst (A.take i ++ A.drop i) (B.take (h - i) ++ B.drop (h - i)) := by rw [List.take_append_drop, List.take_append_drop]
 rw [e1]
 refine smerge_split Prod.fst _ _ _ _ _ (Nat.le_refl _) ?_ ?_
 ·clear c2
  intro x hx y hy
  rcases c1 with rfl | hl | ⟨u, v, hu, hv, huv⟩
  ·simp at hx
  ·rw [List.drop_eq_nil_of_le (by omega)] at hy; simp at hy
  ·obtain ⟨h1, rfl⟩ := List.getElem?_eq_some_iff.1 hu
   obtain ⟨h2, rfl⟩ := List.getElem?_eq_some_iff.1 hv
   by_cases hi0 : i = 0
   ·subst hi0; simp at hx
   ·have p1 := nms_takele hA h1 (Int.le_refl _) x (by rw [show i - 1 + 1 = i by omega]; exact hx)
    have p2 := nms_drop hB h2 (Int.le_refl _) y hy
    omega
 ·clear c1
  intro x hx y hy
  rcases c2 with rfl | hl | ⟨u, v, hu, hv, huv⟩
  ·simp at hx
  ·subst hl; simp at hy
  ·obtain ⟨h1, rfl⟩ := List.getElem?_eq_some_iff.1 hu
   obtain ⟨h2, rfl⟩ := List.getElem?_eq_some_iff.1 hv
   by_cases hi0 : h - i = 0
   ·rw [hi0] at hy; simp at hy
   ·have p1 := nms_drop hA h1 (Int.le_refl _) x hx
    have p2 := nms_takele hB h2 (Int.le_refl _) y (by rw [show h - i - 1 + 1 = h - i by omega]; exact hy)
    omega
def SymOk (base G cap N n : Nat) : Prop :=
  ∀ (a m b : Nat) (L A B R : List Nm) (w : World), A.length + B.length ≤ n → (L ++ (A ++ (B ++ R))).length = N → L.length = a → a + A.length = m → m + B.length = b → 0 < A.length → 0 < B.length → NmS A → NmS B → NmAt w base G cap (L ++ (A ++ (B ++ R))) →
    Calls Tryz.prog 186 #[.slice (some ⟨G, 0, none⟩) N cap, .int .i64 a, .int .i64 m, .int .i64 b, .func (.func 129) #[] #[]] w
      fun e w' => e = .returned (.tuple #[]) ∧ NmAt w' base G cap (L ++ (smerge Prod.fst A B ++ R)) ∧ w.grownBy w' (some G)
def SrC (A B : List Nm) (a m mid s0 r0 p q : Nat) : Prop :=
 (p = s0 ∨ ∃ u v, A[p - 1 - a]? = some u ∧ B[mid - p]? = some v ∧ u.1 ≤ v.1) ∧ (q = r0 ∨ ∃ u v, A[q - a]? = some u ∧ B[mid - 1 - q]? = some v ∧ v.1 < u.1)
theorem nms_sub {A : List Nm} (h : NmS A) (k : Nat) : NmS (A.take k) ∧ NmS (A.drop k) := ⟨List.Pairwise.sublist (List.take_sublist _ _) h, List.Pairwise.sublist (List.drop_sublist _ _) h⟩
theorem sg_getB (L A B R : List Nm) {j m : Nat} (hm : L.length + A.length = m) (hj : j < B.length) : (L ++ (A ++ (B ++ R)))[m + j]? = some B[j] := by
 rw [← List.append_assoc]; exact sl_get _ _ _ (by simp; omega) hj
set_option maxRecDepth 100000 in
set_option maxHeartbeats 8000000 in
theorem s_sym_gen (base G cap N n a m b : Nat) (IH : SymOk base G cap N n) (L A B R : List Nm) (w : World) (hle : A.length + B.length ≤ n + 1) (hN : (L ++ (A ++ (B ++ R))).length = N) (ha : L.length = a) (hma : a + A.length = m) (hb : m + B.length = b) (hn : N ≤ 100000) (hA1 : 1 < A.length) (hB1 : 1 < B.length) (hsA : NmS A) (hsB : NmS B) (H : NmAt w base G cap (L ++ (A ++ (B ++ R)))) :
  Calls Tryz.prog 186 #[.slice (some ⟨G, 0, none⟩) N cap, .int .i64 a, .int .i64 m, .int .i64 b, .func (.func 129) #[] #[]] w
   fun e w' => e = .returned (.tuple #[]) ∧ NmAt w' base G cap (L ++ (smerge Prod.fst A B ++ R)) ∧ w.grownBy w' (some G) := by
 have hNl : b + R.length = N := by rw [← hN, ← hb, ← hma, ← ha]; simp; omega
 obtain ⟨na, hna⟩ : ∃ n, A.length = n := ⟨_, rfl⟩
 obtain ⟨nb, hnb⟩ : ∃ n, B.length = n := ⟨_, rfl⟩
 rw [hna] at hma hA1 hle
 rw [hnb] at hb hB1 hle
 obtain ⟨mid, hmid⟩ : ∃ k, (a + b) / 2 = k := ⟨_, rfl⟩
 have e0 : ((m : Int) - (a : Int) == 1) = false := by rw [beq_eq_false_iff_ne]; omega
 have e1 : ((b : Int) - (m : Int) == 1) = false := by rw [beq_eq_false_iff_ne]; omega
 have e2 : ((a : Int) + (b : Int)) / 2 = (mid : Int) := by omega
 have cv0 : IntKind.u64.wrap ((a : Int) + (b : Int)) = (a : Int) + (b : Int) := by rw [IntKind.wrap_u64]; omega
 have HIH := Lib.hid IH
 have HSA := Lib.hid hsA
 have HSB := Lib.hid hsB
 have H0 := Lib.hid H
 have hcap := Lib.hid H.caps
 have HNU := Lib.hid (And.intro hna (And.intro hnb (And.intro ha (And.intro hma (And.intro hb (And.intro hNl (And.intro hle (And.intro hA1 (And.intro hB1 hN)))))))))
 have ham : a < m := by omega
 have hmb : m < b := by omega
 have hbN : b ≤ N := by omega
 have hmid1 : a < mid := by omega
 have hmid2 : mid < b := by omega
 have HMM := Lib.hid hmid
 clear IH hsA hsB H hna hnb ha hma hb hN hle hA1 hB1 hNl hmid
 have mixed : Tryz.prog.follows .mixedOrders = true := by kernel_rfl
 go_enter Tryz.func186, Tryz.ntmps186
 go_upto_if 140 with fail
 go_cut [20, 21] from 138 to 146 (fun x y wx => ∃ s0 r0 : Nat, x = .int .i64 s0 ∧ y = .int .i64 r0 ∧ s0 ≤ r0 ∧ a ≤ s0 ∧ r0 ≤ m ∧ r0 ≤ mid ∧ mid + m ≤ b + s0 ∧ Hid (s0 = a ∨ mid + m = b + s0) ∧ Hid (r0 = m ∨ r0 = mid) ∧ wx = w)
 case first =>
  by_cases hgt : mid < m
  ·have hg : (mid : Int) < (m : Int) := by omega
   go_wp2_with fail
   go_meet
   exact ⟨mid + m - b, mid, by go_num, rfl, by omega, by have := HMM.out; omega, by omega, Nat.le_refl _, by omega, Lib.hid (Or.inr (by have := HMM.out; omega)), Lib.hid (Or.inr rfl), rfl⟩
  ·have hg : ¬ (mid : Int) < (m : Int) := by omega
   go_wp2_with fail
   go_meet
   exact ⟨a, m, rfl, rfl, by omega, Nat.le_refl _, Nat.le_refl _, by omega, by have := HMM.out; omega, Lib.hid (Or.inl rfl), Lib.hid (Or.inl rfl), rfl⟩
 case rest =>
  obtain ⟨s0, r0, rfl, rfl, hsr, has, hrm, hrmid, hsb, HS0, HR0, hwc⟩ := hcut
  have hwc2 := hwc.symm
  clear hwc
  subst hwc2
  obtain ⟨W0, hW0⟩ : ∃ W0 : World, W0 = w := ⟨_, rfl⟩
  have HG0 := Lib.hid (show w.grownBy W0 (some G) by rw [hW0]; exact grown_refl w _)
  rw [← hW0] at H0
  obtain ⟨pz, hpz⟩ : ∃ k, mid + m - 1 = k := ⟨_, rfl⟩
  have e7 : (mid : Int) + (m : Int) - 1 = (pz : Int) := by omega
  have hpzN : pz < 2 * N := by omega
  have HPZ := Lib.hid hpz
  clear hpz
  have HC0 := Lib.hid (show SrC A B a m mid s0 r0 s0 r0 from ⟨Or.inl rfl, Or.inl rfl⟩)
  go_wp2_with fail
  go_loopw [20, 21] (fun i j wr => ∃ p q : Nat, s0 ≤ p ∧ p ≤ q ∧ q ≤ r0 ∧ i = .int .i64 p ∧ j = .int .i64 q ∧ Hid (SrC A B a m mid s0 r0 p q) ∧ Hid (NmAt wr base G cap (L ++ (A ++ (B ++ R)))) ∧ Hid (w.grownBy wr (some G))) (fun i j _ => (intOf j).toNat - (intOf i).toNat)
  case atStart => exact ⟨s0, r0, Nat.le_refl _, hsr, Nat.le_refl _, rfl, rfl, HC0, by rw [← hW0]; exact H0, by rw [hW0] at HG0; exact HG0⟩
  case round =>
   clear H0 HG0 HC0 hW0
   obtain ⟨p, q, hsp, hpq, hqr, rfl, rfl, HK, HW, HG⟩ := hrel
   by_cases hlt : p < q
   ·obtain ⟨h, hh⟩ : ∃ h, (p + q) / 2 = h := ⟨_, rfl⟩
    have hp1 : p ≤ h := by omega
    have hq1 : h < q := by omega
    have hAi : h - a < A.length := by have := HNU.out; omega
    have hBi : mid - 1 - h < B.length := by have := HNU.out; omega
    have g1 := sl_get L A (B ++ R) (h := h - a) HNU.out.2.2.1 hAi
    have g2 := sg_getB L A B R (m := m) (by have := HNU.out; omega) hBi
    obtain ⟨z, hz⟩ : ∃ z, mid + m - 1 - h = z := ⟨_, rfl⟩
    rw [show a + (h - a) = h by omega] at g1
    rw [show m + (mid - 1 - h) = z by omega] at g2
    obtain ⟨x, hx⟩ : ∃ x, A[h - a] = x := ⟨_, rfl⟩
    rw [hx] at g1
    obtain ⟨y, hy⟩ : ∃ y, B[mid - 1 - h] = y := ⟨_, rfl⟩
    rw [hy] at g2
    obtain ⟨c10, c11⟩ := HW.out.seen g1
    obtain ⟨c20, c21⟩ := HW.out.seen g2
    have HX := Lib.hid (show A[h - a]? = some x by rw [← hx]; exact List.getElem?_eq_getElem hAi)
    have HY := Lib.hid (show B[mid - 1 - h]? = some y by rw [← hy]; exact List.getElem?_eq_getElem hBi)
    clear g1 g2 hx hy
    have hc2 := hcap.out.2
    unfold maxLen at hc2
    have i1 : (0 : Int) ≤ (h : Int) := by omega
    have i2 : (h : Int) < (N : Int) := by omega
    have i3 : (0 : Int) ≤ (z : Int) := by omega
    have i4 : (z : Int) < (N : Int) := by omega
    have e5 : (pz : Int) - (h : Int) = (z : Int) := by have := HPZ.out; omega
    have hw5 : IntKind.i64.wrap (z : Int) = (z : Int) := IntWalk.i64_in _ (by omega)
    have hw6 : z < N := by omega
    have cv1 : IntKind.u64.wrap ((p : Int) + (q : Int)) = (p : Int) + (q : Int) := by rw [IntKind.wrap_u64]; omega
    have hd : ((p : Int) + (q : Int)) / 2 = (h : Int) := by omega
    have HZZ := Lib.hid (And.intro hz hh)
    clear hz hh
    obtain ⟨xa, xp⟩ := x
    obtain ⟨ya, yp⟩ := y
    simp only at c10 c11 c20 c21
    by_cases hyx : ya < xa
    ·have hc : decide (Lib.compareInt ya xa < 0) = true := decide_eq_true (cmpI_lt hyx)
     go_wp2_with fail
     go_quiet_grown (first | (go_at_call 129; exact Calls.grown_of (nm_cmp _ _ _ _ _)))
     clear c10 c11 c20 c21
     have HF := Lib.hid (And.intro (HW.out.grow nq osq) (grown_grow HG.out nq osq))
     generalize Go.Sort.grow (wr.drewN nq) osq = W at HF ⊢
     go_wp2_with fail
     refine ⟨⟨p, h, hsp, by omega, by omega, rfl, by go_num, Lib.hid ⟨HK.out.1, Or.inr ⟨_, _, HX.out, HY.out, hyx⟩⟩, Lib.hid HF.out.1, Lib.hid HF.out.2⟩, by simp only [intOf]; omega⟩
    ·have hc : decide (Lib.compareInt ya xa < 0) = false := decide_eq_false (cmpI_ge hyx)
     go_wp2_with fail
     go_quiet_grown (first | (go_at_call 129; exact Calls.grown_of (nm_cmp _ _ _ _ _)))
     clear c10 c11 c20 c21
     have HF := Lib.hid (And.intro (HW.out.grow nq osq) (grown_grow HG.out nq osq))
     generalize Go.Sort.grow (wr.drewN nq) osq = W at HF ⊢
     go_wp2_with fail
     refine ⟨⟨h + 1, q, by omega, by omega, hqr, by go_num, rfl, Lib.hid ⟨Or.inr ⟨(xa, xp), (ya, yp), ?_, ?_, hyx⟩, HK.out.2⟩, Lib.hid HF.out.1, Lib.hid HF.out.2⟩, by simp only [intOf]; omega⟩
     ·rw [show h + 1 - 1 - a = h - a by omega]; exact HX.out
     ·rw [show mid - (h + 1) = mid - 1 - h by omega]; exact HY.out
   ·obtain rfl : p = q := by omega
    obtain ⟨e, he⟩ : ∃ e, mid + m - p = e := ⟨_, rfl⟩
    have HM := Lib.hid (smerge_gen A B (mid - a) (p - a) HSA.out HSB.out (by have := HNU.out; omega) (by omega) (by have := HNU.out; omega)
     (by
      rcases HK.out.1 with h1 | ⟨u, v, h1, h2, h3⟩
      ·rcases HS0.out with h4 | h4
       ·left; omega
       ·right; left; have := HNU.out; omega
      ·right; right; exact ⟨u, v, by rw [show p - a - 1 = p - 1 - a by omega]; exact h1, by rw [show mid - a - (p - a) = mid - p by omega]; exact h2, h3⟩)
     (by
      rcases HK.out.2 with h1 | ⟨u, v, h1, h2, h3⟩
      ·rcases HR0.out with h4 | h4
       ·left; have := HNU.out; omega
       ·right; left; omega
      ·right; right; exact ⟨u, v, h1, by rw [show mid - a - (p - a) - 1 = mid - 1 - p by omega]; exact h2, h3⟩))
    rw [show mid - a - (p - a) = mid - p by omega] at HM
    obtain ⟨A1, hA1⟩ : ∃ l, A.take (p - a) = l := ⟨_, rfl⟩
    obtain ⟨A2, hA2⟩ : ∃ l, A.drop (p - a) = l := ⟨_, rfl⟩
    obtain ⟨B1, hB1⟩ : ∃ l, B.take (mid - p) = l := ⟨_, rfl⟩
    obtain ⟨B2, hB2⟩ : ∃ l, B.drop (mid - p) = l := ⟨_, rfl⟩
    rw [hA1, hA2, hB1, hB2] at HM
    have hAA : A = A1 ++ A2 := by rw [← hA1, ← hA2, List.take_append_drop]
    have hBB : B = B1 ++ B2 := by rw [← hB1, ← hB2, List.take_append_drop]
    have HLL := Lib.hid (show A1.length = p - a ∧ A2.length = m - p ∧ B1.length = mid - p ∧ B2.length = b - e by
     rw [← hA1, ← hA2, ← hB1, ← hB2, List.length_take, List.length_take, List.length_drop, List.length_drop]
     have := HNU.out
     refine ⟨by omega, by omega, by omega, by omega⟩)
    have HSS := Lib.hid (show NmS A1 ∧ NmS A2 ∧ NmS B1 ∧ NmS B2 from ⟨by rw [← hA1]; exact (nms_sub HSA.out _).1, by rw [← hA2]; exact (nms_sub HSA.out _).2, by rw [← hB1]; exact (nms_sub HSB.out _).1, by rw [← hB2]; exact (nms_sub HSB.out _).2⟩)
    have HWW := Lib.hid (show NmAt wr base G cap (L ++ A1 ++ A2 ++ B1 ++ (B2 ++ R)) by have := HW.out; rw [hAA, hBB] at this; simpa using this)
    have hap : a ≤ p := by omega
    have hpm : p ≤ m := by omega
    have hpmid : p ≤ mid := by omega
    have hae : m ≤ e := by omega
    have heb : e ≤ b := by omega
    have hme : mid ≤ e := by omega
    have HE := Lib.hid he
    have HPE := Lib.hid (show (L ++ A1 ++ A2 ++ B1 ++ (B2 ++ R)).length = N by have := HNU.out; rw [hAA, hBB] at this; simpa using this.2.2.2.2.2.2.2.2.2)
    have e6 : (mid : Int) + (m : Int) - (p : Int) = (e : Int) := by omega
    clear HW HK hA1 hA2 hB1 hB2 hAA hBB he hsp hqr HS0 HR0 hsr hpq
    go_upto_region 39 with fail
    go_cut [185] from 178 to 184 (fun v wx => ∃ g : Bool, v = .bool g ∧ Hid (g = true ↔ (p < m ∧ m < e)) ∧ wx = wr)
    case first =>
     by_cases h1 : p < m
     ·have h1' : (p : Int) < (m : Int) := by omega
      by_cases h2 : m < e
      ·have h2' : (m : Int) < (e : Int) := by omega
       go_wp2_with fail
       go_meet
       exact ⟨true, rfl, Lib.hid (by simp [h1, h2]), rfl⟩
      ·have h2' : ¬ (m : Int) < (e : Int) := by omega
       go_wp2_with fail
       go_meet
       exact ⟨false, rfl, Lib.hid (by simp [h1, h2]), rfl⟩
     ·have h1' : ¬ (p : Int) < (m : Int) := by omega
      go_wp2_with fail
      go_meet
      exact ⟨false, rfl, Lib.hid (by simp [h1]), rfl⟩
    case rest =>
     obtain ⟨g, hv, HQ, hwc⟩ := hcut
     subst hv
     have hwc2 := hwc.symm
     clear hwc
     subst hwc2
     go_upto_if 185 with fail
     go_cut [] from 186 to 191 (fun wx => Hid (NmAt wx base G cap (L ++ (A1 ++ (B1 ++ (A2 ++ (B2 ++ R)))))) ∧ Hid (w.grownBy wx (some G)))
     case first =>
      cases g with
      | true =>
       have hq := HQ.out.1 rfl
       have HR := Lib.hid (s_rotate base G cap N p m e (L ++ A1) A2 B1 (B2 ++ R) (.func (.func 129) #[] #[]) wr HPE.out (by have := HNU.out; have := HLL.out; rw [List.length_append]; omega) (by have := HNU.out; have := HLL.out; rw [List.length_append]; omega) (by have := HNU.out; have := HLL.out; have := HE.out; rw [List.length_append]; omega) hn (by have := HLL.out; omega) (by have := HLL.out; have := HE.out; omega) HWW.out)
       go_wp2_with fail
       refine HR.out.mono ?_
       rintro e2 w2 ⟨rfl, h1, h2⟩
       go_wp2_with fail
       go_meet
       exact ⟨Lib.hid (by simpa using h1), Lib.hid (grown_same HG.out h2)⟩
      | false =>
       have hq : ¬ (p < m ∧ m < e) := fun h => by have := HQ.out.2 h; cases this
       go_wp2_with fail
       go_meet
       refine ⟨Lib.hid ?_, HG⟩
       have hl := HLL.out
       have he := HE.out
       have hh := HWW.out
       by_cases h2 : A2.length = 0
       ·rw [List.length_eq_zero_iff.1 h2] at hh ⊢; simpa using hh
       ·have h3 : B1.length = 0 := by omega
        rw [List.length_eq_zero_iff.1 h3] at hh ⊢; simpa using hh
     case rest =>
      obtain ⟨HW1, HG1⟩ := hcut
      clear HWW HG
      obtain ⟨w1, hw1⟩ : ∃ w1 : World, w1 = wc := ⟨_, rfl⟩
      subst hw1
      go_upto_region 41 with fail
      go_cut [199] from 192 to 198 (fun v wx => ∃ g : Bool, v = .bool g ∧ Hid (g = true ↔ (a < p ∧ p < mid)) ∧ wx = w1)
      case first =>
       by_cases h1 : a < p
       ·have h1' : (a : Int) < (p : Int) := by omega
        by_cases h2 : p < mid
        ·have h2' : (p : Int) < (mid : Int) := by omega
         go_wp2_with fail
         go_meet
         exact ⟨true, rfl, Lib.hid (by simp [h1, h2]), rfl⟩
        ·have h2' : ¬ (p : Int) < (mid : Int) := by omega
         go_wp2_with fail
         go_meet
         exact ⟨false, rfl, Lib.hid (by simp [h1, h2]), rfl⟩
       ·have h1' : ¬ (a : Int) < (p : Int) := by omega
        go_wp2_with fail
        go_meet
        exact ⟨false, rfl, Lib.hid (by simp [h1]), rfl⟩
      case rest =>
       obtain ⟨g, hv, HQ, hwc⟩ := hcut
       subst hv
       have hwc2 := hwc.symm
       clear hwc
       subst hwc2
       go_upto_if 199 with fail
       go_cut [] from 200 to 205 (fun wx => Hid (NmAt wx base G cap (L ++ (smerge Prod.fst A1 B1 ++ (A2 ++ (B2 ++ R))))) ∧ Hid (w.grownBy wx (some G)))
       case first =>
        cases g with
        | true =>
         have hq := HQ.out.1 rfl
         have HR := Lib.hid (HIH.out a p mid L A1 B1 (A2 ++ (B2 ++ R)) w1 (by have := HNU.out; have := HLL.out; omega) (by have := HPE.out; simp at this ⊢; omega) HNU.out.2.2.1 (by have := HLL.out; omega) (by have := HLL.out; omega) (by have := HLL.out; omega) (by have := HLL.out; omega) HSS.out.1 HSS.out.2.2.1 HW1.out)
         go_wp2_with fail
         refine HR.out.mono ?_
         rintro e2 w2 ⟨rfl, h1, h2⟩
         go_wp2_with fail
         go_meet
         exact ⟨Lib.hid h1, Lib.hid (grown_same HG1.out h2)⟩
        | false =>
         have hq : ¬ (a < p ∧ p < mid) := fun h => by have := HQ.out.2 h; cases this
         go_wp2_with fail
         go_meet
         refine ⟨Lib.hid ?_, HG1⟩
         have hl := HLL.out
         have hh := HW1.out
         by_cases h2 : A1.length = 0
         ·rw [List.length_eq_zero_iff.1 h2] at hh ⊢; rw [smerge_nil_left]; simpa using hh
         ·have h3 : B1.length = 0 := by omega
          rw [List.length_eq_zero_iff.1 h3] at hh ⊢; rw [smerge_nil_right]; simpa using hh
       case rest =>
        obtain ⟨HW2, HG2⟩ := hcut
        clear HW1 HG1
        obtain ⟨w2, hw2⟩ : ∃ w2 : World, w2 = wc := ⟨_, rfl⟩
        subst hw2
        obtain ⟨M1, hM1⟩ : ∃ M1, smerge Prod.fst A1 B1 = M1 := ⟨_, rfl⟩
        have HM1 := Lib.hid (show M1.length = mid - a by rw [← hM1, smerge_len Prod.fst _ _ _ (Nat.le_refl _)]; have := HLL.out; omega)
        rw [hM1] at HW2 HM
        clear hM1
        have HW3 := Lib.hid (show NmAt w2 base G cap ((L ++ M1) ++ (A2 ++ (B2 ++ R))) by have := HW2.out; simpa using this)
        clear HW2
        go_upto_region 43 with fail
        go_cut [213] from 206 to 212 (fun v wx => ∃ g : Bool, v = .bool g ∧ Hid (g = true ↔ (mid < e ∧ e < b)) ∧ wx = w2)
        case first =>
         by_cases h1 : mid < e
         ·have h1' : (mid : Int) < (e : Int) := by omega
          by_cases h2 : e < b
          ·have h2' : (e : Int) < (b : Int) := by omega
           go_wp2_with fail
           go_meet
           exact ⟨true, rfl, Lib.hid (by simp [h1, h2]), rfl⟩
          ·have h2' : ¬ (e : Int) < (b : Int) := by omega
           go_wp2_with fail
           go_meet
           exact ⟨false, rfl, Lib.hid (by simp [h1, h2]), rfl⟩
         ·have h1' : ¬ (mid : Int) < (e : Int) := by omega
          go_wp2_with fail
          go_meet
          exact ⟨false, rfl, Lib.hid (by simp [h1]), rfl⟩
        case rest =>
         obtain ⟨g, hv, HQ, hwc⟩ := hcut
         subst hv
         have hwc2 := hwc.symm
         clear hwc
         subst hwc2
         cases g with
         | true =>
          have hq := HQ.out.1 rfl
          have HR := Lib.hid (HIH.out mid e b (L ++ M1) A2 B2 R w2 (by have := HNU.out; have := HLL.out; omega) (by have := HPE.out; have := HM1.out; have := HLL.out; simp at *; omega) (by have := HNU.out; have := HM1.out; rw [List.length_append]; omega) (by have := HLL.out; have := HE.out; omega) (by have := HLL.out; omega) (by have := HLL.out; have := HE.out; omega) (by have := HLL.out; omega) HSS.out.2.1 HSS.out.2.2.2 HW3.out)
          go_wp2_with fail
          refine HR.out.mono ?_
          rintro e2 w3 ⟨rfl, h1, h2⟩
          go_wp2_with fail
          go_end0
          refine ⟨rfl, ?_, grown_same HG2.out h2⟩
          rw [HM.out]
          simpa using h1
         | false =>
          have hq : ¬ (mid < e ∧ e < b) := fun h => by have := HQ.out.2 h; cases this
          go_wp2_with fail
          go_end0
          refine ⟨rfl, ?_, HG2.out⟩
          have hl := HLL.out
          have he := HE.out
          have hh := HW3.out
          rw [HM.out]
          by_cases h2 : A2.length = 0
          ·rw [List.length_eq_zero_iff.1 h2] at hh ⊢; rw [smerge_nil_left]; simpa using hh
          ·have h3 : B2.length = 0 := by omega
           rw [List.length_eq_zero_iff.1 h3] at hh ⊢; rw [smerge_nil_right]; simpa using hh
end Go.Proofs.YthppifcggmdmoaaGreatDoor
namespace Go.Proofs.YthppifcggmdmoaaGreatDoor
open Go.RowKit Go.Sort
set_option linter.unusedVariables false
theorem sym_ok (base G cap N : Nat) (hn : N ≤ 100000) : ∀ n, SymOk base G cap N n := by
 intro n
 induction n with
 | zero => intro a m b L A B R w h1 _ _ _ _ hA; omega
 | succ n ih =>
  intro a m b L A B R w hle hN ha hm hb hA hB sA sB H
  by_cases h1 : A.length = 1
  ·obtain ⟨x, rfl⟩ := List.length_eq_one_iff.1 h1
   exact s_sym_one base G cap N a m b L B R x w (by simpa using hN) ha (by simpa using hm) (by simp at hm; omega) hn sB (by simpa using H)
  ·by_cases h2 : B.length = 1
   ·obtain ⟨y, rfl⟩ := List.length_eq_one_iff.1 h2
    exact s_sym_last base G cap N a m b L A R y w (by simpa using hN) ha hm (by simpa using hb) hn h1 sA (by simpa using H)
   ·exact s_sym_gen base G cap N n a m b ih L A B R w hle hN ha hm hb hn (by omega) (by omega) sA sB H
theorem ssort_take1 (X : List Nm) : ssort Prod.fst (X.take 1) = X.take 1 := by
 cases X with
 | nil => rfl
 | cons x l => exact ssort_one Prod.fst x
theorem nms_ssort (X : List Nm) : NmS (ssort Prod.fst X) := ssort_sorted Prod.fst _ X rfl
theorem len_ssort (X : List Nm) : (ssort Prod.fst X).length = X.length := ssort_len Prod.fst _ X rfl
set_option maxRecDepth 100000 in
set_option maxHeartbeats 8000000 in
theorem s_insertion (base G cap N a b : Nat) (L X R : List Nm) (w : World) (hN : (L ++ (X ++ R)).length = N) (ha : L.length = a) (hb : a + X.length = b) (hn : N ≤ 100000) (H : NmAt w base G cap (L ++ (X ++ R))) :
  Calls Tryz.prog 185 #[.slice (some ⟨G, 0, none⟩) N cap, .int .i64 a, .int .i64 b, .func (.func 129) #[] #[]] w
   fun e w' => e = .returned (.tuple #[]) ∧ NmAt w' base G cap (L ++ (ssort Prod.fst X ++ R)) ∧ w.grownBy w' (some G) := by
 have hNl : b + R.length = N := by rw [← hN, ← hb, ← ha]; simp; omega
 have HNU := Lib.hid (And.intro ha (And.intro hb hNl))
 have hcap := Lib.hid H.caps
 have hbN : b ≤ N := by omega
 have hab : a ≤ b := by omega
 have H0 := Lib.hid (show NmAt w base G cap (L ++ (ssort Prod.fst (X.take (a + 1 - a)) ++ (X.drop (a + 1 - a) ++ R))) by rw [show a + 1 - a = 1 by omega, ssort_take1, ← List.append_assoc (X.take 1), List.take_append_drop]; exact H)
 clear H ha hb hNl hN
 have mixed : Tryz.prog.follows .mixedOrders = true := by kernel_rfl
 go_enter Tryz.func185, Tryz.ntmps185
 go_wp2_with fail
 go_loopw [8] (fun i wr => ∃ p : Nat, a + 1 ≤ p ∧ (p ≤ b ∨ p = a + 1) ∧ i = .int .i64 p ∧ Hid (NmAt wr base G cap (L ++ (ssort Prod.fst (X.take (p - a)) ++ (X.drop (p - a) ++ R)))) ∧ Hid (w.grownBy wr (some G))) (fun i _ => b - (intOf i).toNat)
 case atStart => exact ⟨a + 1, Nat.le_refl _, Or.inr rfl, by go_num, H0, Lib.hid (grown_refl w _)⟩
 case round =>
  clear H0
  obtain ⟨p, hp, hpb, rfl, HW, HG⟩ := hrel
  by_cases hlt : p < b
  ·obtain ⟨k, hk⟩ : ∃ k, p - a = k := ⟨_, rfl⟩
   have hkX : k < X.length := by have := HNU.out; omega
   obtain ⟨x, hx⟩ : ∃ x, X[k] = x := ⟨_, rfl⟩
   have hdr : X.drop k = x :: X.drop (k + 1) := by rw [List.drop_eq_getElem_cons hkX, hx]
   have htk : X.take (k + 1) = X.take k ++ [x] := by rw [List.take_succ_eq_append_getElem hkX, hx]
   obtain ⟨S, hS⟩ : ∃ S, ssort Prod.fst (X.take k) = S := ⟨_, rfl⟩
   obtain ⟨T, hT⟩ : ∃ T, X.drop (k + 1) ++ R = T := ⟨_, rfl⟩
   have HSl := Lib.hid (show S.length = k by rw [← hS, len_ssort, List.length_take]; omega)
   have HSS := Lib.hid (show NmS S by rw [← hS]; exact nms_ssort _)
   rw [hk, hS, hdr] at HW
   have HNX := Lib.hid (show ssort Prod.fst (X.take (k + 1)) = smerge Prod.fst S [x] by rw [htk, ssort_snoc, hS])
   have HW0 := Lib.hid (show NmAt wr base G cap ((L ++ S.take (p - a)) ++ x :: (S.drop (p - a) ++ T)) by
    have := HW.out
    rw [hk, List.take_of_length_le (by rw [HSl.out]; omega), List.drop_eq_nil_of_le (by rw [HSl.out]; omega), ← hT]
    simpa using this)
   have HKK := Lib.hid hk
   have HTT := Lib.hid hT
   clear HW hx hdr htk hS hT hkX hk
   go_wp2_with fail
   go_loopw [9] (fun i wr => ∃ q : Nat, a ≤ q ∧ q ≤ p ∧ i = .int .i64 q ∧ Hid (∀ t ∈ S.drop (q - a), x.1 < t.1) ∧ Hid (NmAt wr base G cap ((L ++ S.take (q - a)) ++ x :: (S.drop (q - a) ++ T))) ∧ Hid (w.grownBy wr (some G))) (fun i _ => (intOf i).toNat)
   case atStart => exact ⟨p, by omega, Nat.le_refl _, rfl, Lib.hid (by rw [List.drop_eq_nil_of_le (by rw [HSl.out]; have := HKK.out; omega)]; simp), HW0, HG⟩
   case round =>
    clear HW0 HG
    obtain ⟨q, haq, hqp, rfl, HD, HW, HG⟩ := hrel
    by_cases hja : a < q
    ·have hja' : (a : Int) < (q : Int) := by omega
     obtain ⟨s, rfl⟩ : ∃ s, q = s + 1 := ⟨q - 1, by omega⟩
     obtain ⟨c, hc⟩ : ∃ c, s - a = c := ⟨_, rfl⟩
     rw [show s + 1 - a = c + 1 by omega] at HW HD
     have hcS : c < S.length := by rw [HSl.out]; have := HKK.out; omega
     obtain ⟨y, hy⟩ : ∃ y, S[c] = y := ⟨_, rfl⟩
     have hdr : S.drop c = y :: S.drop (c + 1) := by rw [List.drop_eq_getElem_cons hcS, hy]
     have htk : S.take (c + 1) = S.take c ++ [y] := by rw [List.take_succ_eq_append_getElem hcS, hy]
     have hlen : (L ++ S.take c).length = s := by rw [List.length_append, List.length_take]; have := HNU.out; omega
     have HX := Lib.hid (show NmAt wr base G cap ((L ++ S.take c) ++ y :: x :: (S.drop (c + 1) ++ T)) by have := HW.out; rw [htk] at this; simpa using this)
     have g1 : ((L ++ S.take c) ++ y :: x :: (S.drop (c + 1) ++ T))[s]? = some y := so_get0 _ _ y hlen
     have g2 : ((L ++ S.take c) ++ y :: x :: (S.drop (c + 1) ++ T))[s + 1]? = some x := by
      rw [List.getElem?_append_right (by omega), show s + 1 - (L ++ S.take c).length = 1 by omega]; rfl
     obtain ⟨d10, d11⟩ := HX.out.seen g1
     obtain ⟨d20, d21⟩ := HX.out.seen g2
     have HY := Lib.hid hy
     have hc2 := hcap.out.2
     unfold maxLen at hc2
     have i1 : (0 : Int) ≤ (s : Int) := by omega
     have i2 : (s : Int) < (N : Int) := by omega
     have i3 : (0 : Int) ≤ (s : Int) + 1 := by omega
     have i4 : (s : Int) + 1 < (N : Int) := by omega
     have e5 : (s : Int) + 1 - 1 = (s : Int) := by omega
     have hw5 : IntKind.i64.wrap (s : Int) = (s : Int) := IntWalk.i64_in _ (by omega)
     have hja2 : (a : Int) < (s : Int) + 1 := by omega
     have HG12 := Lib.hid (And.intro g1 g2)
     have HLN := Lib.hid hlen
     have HDT := Lib.hid (And.intro hdr htk)
     have HCC := Lib.hid hc
     clear g1 g2 hlen hdr htk hy hc
     obtain ⟨xa, xp⟩ := x
     obtain ⟨ya, yp⟩ := y
     simp only at d10 d11 d20 d21
     by_cases hyx : xa < ya
     ·have hcd : decide (Lib.compareInt xa ya < 0) = true := decide_eq_true (cmpI_lt hyx)
      go_wp2_with fail
      go_quiet_grown (first | (go_at_call 129; exact Calls.grown_of (nm_cmp _ _ _ _ _)))
      clear d10 d11 d20 d21
      have HF := Lib.hid (And.intro (HX.out.grow nq osq) (grown_grow HG.out nq osq))
      generalize Go.Sort.grow (wr.drewN nq) osq = W at HF ⊢
      clear HX HG HW
      obtain ⟨c10, c11⟩ := HF.out.1.cell' HG12.out.1
      obtain ⟨c20, c21⟩ := HF.out.1.cell' HG12.out.2
      have z10 := HF.out.1.frz (s * 2)
      have z11 := HF.out.1.frz (s * 2 + 1)
      have z20 := HF.out.1.frz ((s + 1) * 2)
      have z21 := HF.out.1.frz ((s + 1) * 2 + 1)
      have zl := HF.out.1.lt.2
      have hS0 := HF.out.1.swap (i := s + 1) (j := s) (x := (xa, xp)) (y := (ya, yp)) (by have := (List.getElem?_eq_some_iff.1 HG12.out.2).1; exact this) (by have := (List.getElem?_eq_some_iff.1 HG12.out.1).1; exact this)
      rw [sw2_dn _ _ (ya, yp) (xa, xp) HLN.out.symm] at hS0
      have HS0 := Lib.hid (And.intro hS0 (grown_same HF.out.2 (grown_swap (w := W) (G := G) ((s + 1) * 2) ((s + 1) * 2 + 1) (s * 2) (s * 2 + 1) (.int .i64 ya) (.pointer yp) (.int .i64 xa) (.pointer xp))))
      simp only at c10 c11 c20 c21
      clear hS0 HF
      go_wp2_with fail
      go_region
      clear c10 c11 c20 c21 z10 z11 z20 z21 zl
      obtain ⟨V, hV⟩ : ∃ V, (((W.setCell ⟨G, (s + 1) * 2, none⟩ (.int .i64 ya)).setCell ⟨G, (s + 1) * 2 + 1, none⟩ (.pointer yp)).setCell ⟨G, s * 2, none⟩ (.int .i64 xa)).setCell ⟨G, s * 2 + 1, none⟩ (.pointer xp) = V := ⟨_, rfl⟩
      rw [hV] at HS0 ⊢
      clear hV
      go_wp2_with fail
      refine ⟨⟨s, by omega, by omega, by go_num, Lib.hid ?_, Lib.hid ?_, Lib.hid (grown_drew HS0.out.2)⟩, by simp only [intOf]; omega⟩
      ·rw [HCC.out, HDT.out.1]
       intro t ht
       rcases List.mem_cons.1 ht with rfl | ht
       ·exact hyx
       ·exact HD.out t ht
      ·have := HS0.out.1
       rw [HCC.out, HDT.out.1]
       exact World.ownsRow.kept this (grown_drew (grown_refl V none)) (Or.inr (by simp [Value.ownBlock]))
     ·have hcd : decide (Lib.compareInt xa ya < 0) = false := decide_eq_false (cmpI_ge hyx)
      go_wp2_with fail
      go_quiet_grown (first | (go_at_call 129; exact Calls.grown_of (nm_cmp _ _ _ _ _)))
      clear d10 d11 d20 d21
      have HF := Lib.hid (And.intro (HW.out.grow nq osq) (grown_grow HG.out nq osq))
      generalize Go.Sort.grow (wr.drewN nq) osq = W at HF ⊢
      go_wp2_with fail
      refine ⟨⟨p + 1, by omega, Or.inl (by omega), by go_num, Lib.hid ?_, Lib.hid HF.out.2⟩, by simp only [intOf]; omega⟩
      have hm := smerge_in Prod.fst (S.take (c + 1)) (S.drop (c + 1)) (xa, xp) (nms_takele HSS.out hcS (by rw [HY.out]; simp only; omega)) HD.out
      rw [List.take_append_drop] at hm
      rw [show p + 1 - a = k + 1 by have := HKK.out; omega, HNX.out, hm, HTT.out]
      simpa using HF.out.1
    ·obtain rfl : q = a := by omega
     have hja' : ¬ (q : Int) < (q : Int) := by omega
     go_wp2_with fail
     go_quiet (fail)
     have HF := Lib.hid (And.intro (HW.out.grow nq #[]) (grown_grow HG.out nq #[]))
     rw [grow_empty] at HF
     generalize wr.drewN nq = W at HF ⊢
     go_wp2_with fail
     refine ⟨⟨p + 1, by omega, Or.inl (by omega), by go_num, Lib.hid ?_, Lib.hid HF.out.2⟩, by simp only [intOf]; omega⟩
     have hm := smerge_in Prod.fst [] S x (by simp) (by have := HD.out; rw [Nat.sub_self] at this; exact this)
     rw [List.nil_append, List.nil_append] at hm
     rw [show p + 1 - q = k + 1 by have := HKK.out; omega, HNX.out, hm, HTT.out]
     have := HF.out.1
     rw [Nat.sub_self] at this
     simpa using this
  ·go_wp2_with fail
   go_end0
   refine ⟨rfl, ?_, HG.out⟩
   have hh := HW.out
   rw [List.take_of_length_le (by have := HNU.out; omega), List.drop_eq_nil_of_le (by have := HNU.out; omega)] at hh
   simpa using hh
end Go.Proofs.YthppifcggmdmoaaGreatDoor
namespace Go.Proofs.YthppifcggmdmoaaGreatDoor
open Go.RowKit Go.Sort
set_option linter.unusedVariables false
def bsort (b : Nat) (X : List Nm) : List Nm :=
 if h : 0 < b ∧ b ≤ X.length then ssort Prod.fst (X.take b) ++ bsort b (X.drop b) else ssort Prod.fst X
termination_by X.length
decreasing_by rw [List.length_drop]; omega
theorem bsort_step {b : Nat} {X : List Nm} (h0 : 0 < b) (h : b ≤ X.length) : bsort b X = ssort Prod.fst (X.take b) ++ bsort b (X.drop b) := by rw [bsort, dif_pos ⟨h0, h⟩]
theorem bsort_end {b : Nat} {X : List Nm} (h : X.length < b) : bsort b X = ssort Prod.fst X := by rw [bsort, dif_neg (by omega)]
theorem bsort_le {b : Nat} {X : List Nm} (h0 : 0 < b) (h : X.length ≤ b) : bsort b X = ssort Prod.fst X := by
 by_cases he : X.length = b
 ·rw [bsort_step h0 (by omega), List.take_of_length_le (by omega), List.drop_eq_nil_of_le (by omega), bsort_end (by simpa using h0)]
  show _ ++ [] = _
  rw [List.append_nil]
 ·exact bsort_end (by omega)
theorem bsort_len (b : Nat) : ∀ (n : Nat) (X : List Nm), X.length ≤ n → (bsort b X).length = X.length
 | 0, X, h => by
  by_cases h1 : 0 < b ∧ b ≤ X.length
  ·omega
  ·rw [bsort, dif_neg h1, len_ssort]
 | n + 1, X, h => by
  by_cases h1 : 0 < b ∧ b ≤ X.length
  ·rw [bsort_step h1.1 h1.2, List.length_append, len_ssort, bsort_len b n _ (by rw [List.length_drop]; omega), List.length_take, List.length_drop]; omega
  ·rw [bsort, dif_neg h1, len_ssort]
set_option maxRecDepth 100000 in
set_option maxHeartbeats 8000000 in
theorem s_stable (base G cap N : Nat) (X : List Nm) (w : World) (hN : X.length = N) (hn : N ≤ 100000) (H : NmAt w base G cap X) :
  Calls Tryz.prog 160 #[.slice (some ⟨G, 0, none⟩) N cap, .int .i64 N, .func (.func 129) #[] #[]] w
   fun e w' => e = .returned (.tuple #[]) ∧ NmAt w' base G cap (ssort Prod.fst X) ∧ w.grownBy w' (some G) := by
 have HN := Lib.hid hN
 have H0 := Lib.hid (show NmAt w base G cap ([] ++ X) from H)
 have HI := Lib.hid (fun a b L X R w => s_insertion base G cap N a b L X R w)
 have HM := Lib.hid (sym_ok base G cap N hn)
 clear H hN
 go_enter Tryz.func160, Tryz.ntmps160
 go_wp2_with fail
 go_loopw [7, 8] (fun i j wr => ∃ (a : Nat) (P : List Nm), a ≤ N ∧ i = .int .i64 a ∧ j = .int .i64 (a + 20 : Nat) ∧ P.length = a ∧ Hid (bsort 20 X = P ++ bsort 20 (X.drop a)) ∧ Hid (NmAt wr base G cap (P ++ X.drop a)) ∧ Hid (w.grownBy wr (some G))) (fun i _ _ => N - (intOf i).toNat)
 case atStart => exact ⟨0, [], Nat.zero_le _, rfl, rfl, rfl, Lib.hid rfl, H0, Lib.hid (grown_refl w _)⟩
 case round =>
  clear H0
  obtain ⟨a, P, haN, rfl, rfl, hP, HB, HW, HG⟩ := hrel
  by_cases hlt : a + 20 ≤ N
  ·obtain ⟨b, hb⟩ : ∃ b, a + 20 = b := ⟨_, rfl⟩
   rw [hb] at hlt ⊢
   obtain ⟨Y, hY⟩ : ∃ Y, X.drop a = Y := ⟨_, rfl⟩
   have hYl : Y.length = N - a := by rw [← hY, List.length_drop, HN.out]
   have hdd : X.drop b = Y.drop 20 := by rw [← hY, List.drop_drop, hb]
   rw [hY] at HB HW
   have HR := Lib.hid (HI.out a b P (Y.take 20) (Y.drop 20) wr (by rw [List.take_append_drop, List.length_append]; omega) hP (by rw [List.length_take]; omega) hn (by rw [List.take_append_drop]; exact HW.out))
   have HBB := Lib.hid (show bsort 20 X = (P ++ ssort Prod.fst (Y.take 20)) ++ bsort 20 (X.drop b) by rw [HB.out, bsort_step (by omega) (by omega), hdd, List.append_assoc])
   have HPL := Lib.hid (show (P ++ ssort Prod.fst (Y.take 20)).length = b by rw [List.length_append, len_ssort, List.length_take]; omega)
   have HDD := Lib.hid hdd
   clear hY hYl hdd HB HW hP
   go_wp2_with fail
   refine HR.out.mono ?_
   rintro e w2 ⟨rfl, h1, h2⟩
   have HF := Lib.hid (And.intro h1 (grown_same HG.out h2))
   clear h1 h2 HR HG
   go_wp2_with fail
   exact ⟨⟨b, P ++ ssort Prod.fst (Y.take 20), hlt, rfl, by go_num, HPL.out, HBB, Lib.hid (by rw [HDD.out, List.append_assoc]; exact HF.out.1), Lib.hid HF.out.2⟩, by simp only [intOf]; omega⟩
  ·obtain ⟨Y, hY⟩ : ∃ Y, X.drop a = Y := ⟨_, rfl⟩
   have hYl : Y.length = N - a := by rw [← hY, List.length_drop, HN.out]
   rw [hY] at HB HW
   have HR := Lib.hid (HI.out a N P Y [] wr (by rw [List.append_nil, List.length_append]; omega) hP (by omega) hn (by rw [List.append_nil]; exact HW.out))
   have HBB := Lib.hid (show bsort 20 X = P ++ ssort Prod.fst Y by rw [HB.out, bsort_end (by omega)])
   clear hY hYl HB HW hP
   go_wp2_with fail
   refine HR.out.mono ?_
   rintro e w2 ⟨rfl, h1, h2⟩
   rw [List.append_nil] at h1
   have HF := Lib.hid (And.intro (show NmAt w2 base G cap (bsort 20 X) by rw [HBB.out]; exact h1) (grown_same HG.out h2))
   clear h1 h2 HR HG HBB
   go_wp2_with fail
   go_loopw [6] (fun i wr => ∃ bs : Nat, 20 ≤ bs ∧ bs ≤ 2 * N + 20 ∧ i = .int .i64 bs ∧ Hid (NmAt wr base G cap (bsort bs X)) ∧ Hid (w.grownBy wr (some G))) (fun i _ => N - (intOf i).toNat)
   case atStart => exact ⟨20, Nat.le_refl _, by omega, rfl, Lib.hid HF.out.1, Lib.hid HF.out.2⟩
   case round =>
    clear HF
    obtain ⟨bs, hbs, hbsN, rfl, HW, HG⟩ := hrel
    by_cases hbn : bs < N
    ·have HW0 := Lib.hid (show NmAt wr base G cap ([] ++ bsort bs (X.drop 0)) from HW.out)
     clear HW
     obtain ⟨bb, hbb⟩ : ∃ bb, 2 * bs = bb := ⟨_, rfl⟩
     have ebb : 2 * (bs : Int) = (bb : Int) := by omega
     have ebb2 : (bs : Int) * 2 = (bb : Int) := by omega
     go_wp2_with fail
     go_loopw [7, 8] (fun i j wr => ∃ (a : Nat) (P : List Nm), a ≤ N ∧ i = .int .i64 a ∧ j = .int .i64 (a + bb : Nat) ∧ P.length = a ∧ Hid (bsort bb X = P ++ bsort bb (X.drop a)) ∧ Hid (NmAt wr base G cap (P ++ bsort bs (X.drop a))) ∧ Hid (w.grownBy wr (some G))) (fun i _ _ => N - (intOf i).toNat)
     case atStart => exact ⟨0, [], Nat.zero_le _, rfl, by go_num, rfl, Lib.hid rfl, HW0, HG⟩
     case round =>
      clear HW0 HG
      obtain ⟨a, P, haN, rfl, rfl, hP, HB, HW, HG⟩ := hrel
      obtain ⟨Y, hY⟩ : ∃ Y, X.drop a = Y := ⟨_, rfl⟩
      have hYl : Y.length = N - a := by rw [← hY, List.length_drop, HN.out]
      rw [hY] at HB HW
      obtain ⟨m, hm⟩ : ∃ m, a + bs = m := ⟨_, rfl⟩
      by_cases hlt2 : a + bb ≤ N
      ·obtain ⟨b, hb⟩ : ∃ b, a + bb = b := ⟨_, rfl⟩
       rw [hb] at hlt2 ⊢
       have hdd : X.drop b = Y.drop bb := by rw [← hY, List.drop_drop, hb]
       have hs1 : bsort bs Y = ssort Prod.fst (Y.take bs) ++ (ssort Prod.fst ((Y.drop bs).take bs) ++ bsort bs (X.drop b)) := by
        rw [bsort_step (by omega) (by omega), bsort_step (by omega) (by rw [List.length_drop]; omega), List.drop_drop, hdd, show bs + bs = bb by omega]
       have hs2 : bsort bb Y = ssort Prod.fst (Y.take bb) ++ bsort bb (X.drop b) := by rw [bsort_step (by omega) (by omega), hdd]
       have hs3 : smerge Prod.fst (ssort Prod.fst (Y.take bs)) (ssort Prod.fst ((Y.drop bs).take bs)) = ssort Prod.fst (Y.take bb) := by
        rw [← ssort_append, ← List.take_add, show bs + bs = bb by omega]
       have hl1 : (ssort Prod.fst (Y.take bs)).length = bs := by rw [len_ssort, List.length_take]; omega
       have hl2 : (ssort Prod.fst ((Y.drop bs).take bs)).length = bs := by rw [len_ssort, List.length_take, List.length_drop]; omega
       have hl3 : (ssort Prod.fst (Y.take bb)).length = bb := by rw [len_ssort, List.length_take]; omega
       have hl4 : (bsort bs (X.drop b)).length = N - b := by rw [bsort_len bs _ _ (Nat.le_refl _), List.length_drop, HN.out]
       rw [hs1] at HW
       have HR := Lib.hid (HM.out (bs + bs) a m b P (ssort Prod.fst (Y.take bs)) (ssort Prod.fst ((Y.drop bs).take bs)) (bsort bs (X.drop b)) wr (by omega) (by rw [List.length_append, List.length_append, List.length_append]; omega) hP (by omega) (by omega) (by omega) (by omega) (nms_ssort _) (nms_ssort _) HW.out)
       have HBB := Lib.hid (show bsort bb X = (P ++ ssort Prod.fst (Y.take bb)) ++ bsort bb (X.drop b) by rw [HB.out, hs2, List.append_assoc])
       have HPL := Lib.hid (show (P ++ ssort Prod.fst (Y.take bb)).length = b by rw [List.length_append]; omega)
       have HS3 := Lib.hid hs3
       have em : (a : Int) + (bs : Int) = (m : Int) := by omega
       clear hY hYl hdd HB HW hP hs1 hs2 hs3 hl1 hl2 hl3 hl4
       go_wp2_with fail
       refine HR.out.mono ?_
       rintro e w3 ⟨rfl, h1, h2⟩
       rw [HS3.out] at h1
       have HF := Lib.hid (And.intro h1 (grown_same HG.out h2))
       clear h1 h2 HR HG HS3
       go_wp2_with fail
       exact ⟨⟨b, P ++ ssort Prod.fst (Y.take bb), hlt2, rfl, by go_num, HPL.out, HBB, Lib.hid (by rw [List.append_assoc]; exact HF.out.1), Lib.hid HF.out.2⟩, by simp only [intOf]; omega⟩
      ·have em : (a : Int) + (bs : Int) = (m : Int) := by omega
       have hs2 : bsort bb Y = ssort Prod.fst Y := bsort_end (by omega)
       by_cases hmN : m < N
       ·have hs1 : bsort bs Y = ssort Prod.fst (Y.take bs) ++ ssort Prod.fst (Y.drop bs) := by
         rw [bsort_step (by omega) (by omega), bsort_end (X := Y.drop bs) (by rw [List.length_drop]; omega)]
        have hs3 : smerge Prod.fst (ssort Prod.fst (Y.take bs)) (ssort Prod.fst (Y.drop bs)) = ssort Prod.fst Y := by
         rw [← ssort_append, List.take_append_drop]
        have hl1 : (ssort Prod.fst (Y.take bs)).length = bs := by rw [len_ssort, List.length_take]; omega
        have hl2 : (ssort Prod.fst (Y.drop bs)).length = N - m := by rw [len_ssort, List.length_drop]; omega
        rw [hs1] at HW
        have HR := Lib.hid (HM.out (bs + bs) a m N P (ssort Prod.fst (Y.take bs)) (ssort Prod.fst (Y.drop bs)) [] wr (by omega) (by rw [List.append_nil, List.length_append, List.length_append]; omega) hP (by omega) (by omega) (by omega) (by omega) (nms_ssort _) (nms_ssort _) (by rw [List.append_nil]; exact HW.out))
        have HBB := Lib.hid (show bsort bb X = P ++ (smerge Prod.fst (ssort Prod.fst (Y.take bs)) (ssort Prod.fst (Y.drop bs)) ++ []) by rw [HB.out, hs2, hs3, List.append_nil])
        clear hY hYl HB HW hP hs1 hs2 hs3 hl1 hl2
        go_wp2_with fail
        refine HR.out.mono ?_
        rintro e w3 ⟨rfl, h1, h2⟩
        rw [← HBB.out] at h1
        have HF := Lib.hid (And.intro h1 (grown_same HG.out h2))
        clear h1 h2 HR HG HBB
        go_wp2_with fail
        exact ⟨⟨bb, by omega, by omega, by go_num, Lib.hid HF.out.1, Lib.hid HF.out.2⟩, by simp only [intOf]; omega⟩
       ·have HBB := Lib.hid (show bsort bb X = P ++ bsort bs Y by rw [HB.out, hs2, bsort_le (by omega) (by omega)])
        have HWW := Lib.hid (show NmAt wr base G cap (bsort bb X) by rw [HBB.out]; exact HW.out)
        clear hY hYl HB HW hP hs2 HBB
        go_wp2_with fail
        exact ⟨⟨bb, by omega, by omega, by go_num, HWW, HG⟩, by simp only [intOf]; omega⟩
    ·go_wp2_with fail
     go_end0
     refine ⟨rfl, ?_, HG.out⟩
     have hh := HW.out
     rwa [bsort_le (by omega) (by rw [HN.out]; omega)] at hh
set_option maxRecDepth 100000 in
set_option maxHeartbeats 4000000 in
theorem s_SortStable (base G cap : Nat) (X : List Nm) (w : World) (hn : X.length ≤ 100000) (H : NmAt w base G cap X) :
  Calls Tryz.prog 128 #[.slice (some ⟨G, 0, none⟩) X.length cap, .func (.func 129) #[] #[]] w
   fun e w' => e = .returned (.tuple #[]) ∧ NmAt w' base G cap (ssort Prod.fst X) ∧ w.grownBy w' (some G) := by
 have HC := Lib.hid (s_stable base G cap X.length X w rfl hn H)
 obtain ⟨N, hN⟩ : ∃ N, X.length = N := ⟨_, rfl⟩
 rw [hN] at HC ⊢
 clear hn H hN
 go_enter Tryz.func128, Tryz.ntmps128
 go_wp2_with fail
 refine HC.out.mono ?_
 rintro e w2 ⟨rfl, h1, h2⟩
 go_wp2_with fail
 go_end0
 exact ⟨rfl, h1, h2⟩
end Go.Proofs.YthppifcggmdmoaaGreatDoor

