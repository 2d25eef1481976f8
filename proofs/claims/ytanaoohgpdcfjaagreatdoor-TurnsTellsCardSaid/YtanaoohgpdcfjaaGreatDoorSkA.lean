/- slices.SortStableFunc at the turns' nominals: swapRange. -/
import Derived.Test.YtanaoohgpdcfjaaGreatDoorBase
import Derived.Deep.Onto
import Derived.RegionTactic
import Derived.Maps.RangeWalk
import Derived.BigRegion
namespace Go.Proofs.YtanaoohgpdcfjaaGreatDoor
open Go.RowKit
set_option linter.unusedVariables false
/-- a nominal: its time, its rule's address -/
abbrev Nm := Int × Option Addr
def nmC (x : Nm) : List Value := [.int .i64 x.1, .pointer x.2]
theorem nmC_len {l : List Nm} : ∀ xs ∈ l.map nmC, xs.length = 2 := by intro xs hx; obtain ⟨c, _, rfl⟩ := List.mem_map.1 hx; rfl
/-- the nominals' row, a block of the call's own -/
def NmAt (w : World) (base G cap : Nat) (xs : List Nm) : Prop := w.ownsRow base 152 2 (.slice (some ⟨G, 0, none⟩) xs.length cap) xs.length (xs.map nmC).flatten
theorem nm_len2 (xs : List Nm) : (xs.map nmC).flatten.length = xs.length * 2 := by
  induction xs with
  | nil => rfl
  | cons x l ih => simp [nmC, ih]; omega
theorem nm_get {xs : List Nm} {k : Nat} (h : k < xs.length) : (xs.map nmC).flatten[k * 2]? = some (.int .i64 xs[k].1) ∧ (xs.map nmC).flatten[k * 2 + 1]? = some (.pointer xs[k].2) := by
  induction xs generalizing k with
  | nil => cases h
  | cons x l ih =>
    cases k with
    | zero => exact ⟨rfl, rfl⟩
    | succ k =>
      have := ih (k := k) (by simpa using h)
      have e1 : (k + 1) * 2 = k * 2 + 2 := by omega
      rw [e1]
      exact ⟨by simpa [nmC] using this.1, by simpa [nmC] using this.2⟩
theorem nm_set {xs : List Nm} {k : Nat} (h : k < xs.length) (y : Nm) : ((xs.map nmC).flatten.set (k * 2) (.int .i64 y.1)).set (k * 2 + 1) (.pointer y.2) = ((xs.set k y).map nmC).flatten := by
  induction xs generalizing k with
  | nil => cases h
  | cons x l ih =>
    cases k with
    | zero => rfl
    | succ k =>
      have := ih (k := k) (by simpa using h)
      have e1 : (k + 1) * 2 = k * 2 + 2 := by omega
      rw [e1]
      show ((Value.int .i64 x.1 :: Value.pointer x.2 :: (l.map nmC).flatten).set (k * 2 + 2) _).set (k * 2 + 2 + 1) _ = Value.int .i64 x.1 :: Value.pointer x.2 :: ((l.set k y).map nmC).flatten
      rw [← this]
      rfl
theorem NmAt.cell {w : World} {base G cap : Nat} {xs : List Nm} (h : NmAt w base G cap xs) {k : Nat} (hk : k < xs.length) : w.cell? ⟨G, k * 2, none⟩ = some (.int .i64 xs[k].1) ∧ w.cell? ⟨G, k * 2 + 1, none⟩ = some (.pointer xs[k].2) := by
  have := nm_get hk
  exact ⟨(World.ownsRow.cellAt h _ (by omega)).trans this.1, (World.ownsRow.cellAt h _ (by omega)).trans this.2⟩
theorem NmAt.cell' {w : World} {base G cap : Nat} {xs : List Nm} (h : NmAt w base G cap xs) {k : Nat} {x : Nm} (hg : xs[k]? = some x) : w.cell? ⟨G, k * 2, none⟩ = some (.int .i64 x.1) ∧ w.cell? ⟨G, k * 2 + 1, none⟩ = some (.pointer x.2) := by
  obtain ⟨hk, rfl⟩ := List.getElem?_eq_some_iff.1 hg
  exact h.cell hk
theorem NmAt.frz {w : World} {base G cap : Nat} {xs : List Nm} (h : NmAt w base G cap xs) (j : Nat) : w.frozen? ⟨G, j, none⟩ = false := World.ownsRow.frozenAt h j
theorem NmAt.put {w : World} {base G cap : Nat} {xs : List Nm} (h : NmAt w base G cap xs) {k : Nat} (hk : k < xs.length) (y : Nm) : NmAt ((w.setCell ⟨G, k * 2, none⟩ (.int .i64 y.1)).setCell ⟨G, k * 2 + 1, none⟩ (.pointer y.2)) base G cap (xs.set k y) := by
  have h1 := (World.ownsRow.stored (World.ownsRow.stored h (k * 2) (.int .i64 y.1)).1 (k * 2 + 1) (.pointer y.2)).1
  rw [nm_set hk y] at h1
  show World.ownsRow _ _ _ _ (.slice _ (xs.set k y).length _) (xs.set k y).length _
  rw [List.length_set]
  exact h1
theorem NmAt.lt {w : World} {base G cap : Nat} {xs : List Nm} (h : NmAt w base G cap xs) : base ≤ G ∧ G < w.heap.size := World.ownsRow.lt h G rfl
theorem NmAt.caps {w : World} {base G cap : Nat} {xs : List Nm} (h : NmAt w base G cap xs) : xs.length ≤ cap ∧ cap ≤ maxLen := by
  rcases h.2 with ⟨h, _⟩ | ⟨g, c, cur, e, _, _, h1, h2, _⟩
  · cases h
  · cases e; exact ⟨h1, h2⟩
theorem grown_set2 (w : World) (a : Addr) (v : Value) : w.grownBy (w.setCell a v) (some a.block) :=
  ⟨rfl, rfl, rfl, by simp, fun k _ hk => Below.heap_setCell _ _ _ _ (fun e => hk (by rw [e]))⟩
/-- swapRange's list: two ranges of one length change places, so far to k -/
theorem sw_get1 {P A B C S : List Nm} {k : Nat} (hA : k < A.length) (hl : A.length = C.length) : (P ++ (C.take k ++ A.drop k) ++ B ++ (A.take k ++ C.drop k) ++ S)[P.length + k]? = some A[k] := by
  rw [List.append_assoc, List.append_assoc, List.append_assoc, List.getElem?_append_right (by omega), show P.length + k - P.length = k by omega, List.append_assoc, List.getElem?_append_right (by simp; omega)]
  rw [List.length_take, show k - min k C.length = 0 by omega, List.getElem?_append_left (by simp; omega), List.getElem?_drop, Nat.add_zero, List.getElem?_eq_getElem hA]
theorem sw_get2 {P A B C S : List Nm} {k : Nat} (hA : k < A.length) (hl : A.length = C.length) : (P ++ (C.take k ++ A.drop k) ++ B ++ (A.take k ++ C.drop k) ++ S)[P.length + A.length + B.length + k]? = some (C[k]'(by omega)) := by
  have e0 : (P ++ (C.take k ++ A.drop k) ++ B).length = P.length + A.length + B.length := by simp; omega
  rw [List.append_assoc, List.getElem?_append_right (by omega), e0, show P.length + A.length + B.length + k - (P.length + A.length + B.length) = k by omega, List.append_assoc, List.getElem?_append_right (by simp; omega)]
  rw [List.length_take, show k - min k A.length = 0 by omega, List.getElem?_append_left (by simp; omega), List.getElem?_drop, Nat.add_zero, List.getElem?_eq_getElem (by omega)]
theorem set_at {α : Type} (X T : List α) (a b : α) {n : Nat} (h : n = X.length) : (X ++ a :: T).set n b = X ++ b :: T := by
  subst h
  rw [List.set_append_right _ _ (Nat.le_refl _), Nat.sub_self]; rfl
theorem sw_form {P A B C S : List Nm} {k : Nat} (hA : k < A.length) (hl : A.length = C.length) : P ++ (C.take k ++ A.drop k) ++ B ++ (A.take k ++ C.drop k) ++ S = (P ++ C.take k) ++ A[k] :: ((A.drop (k + 1) ++ B ++ A.take k) ++ (C[k]'(by omega)) :: (C.drop (k + 1) ++ S)) := by
  rw [List.drop_eq_getElem_cons hA, List.drop_eq_getElem_cons (show k < C.length by omega)]
  simp only [List.append_assoc, List.cons_append]
theorem sw_form2 {P A B C S : List Nm} {k : Nat} (hA : k < A.length) (hl : A.length = C.length) : P ++ (C.take (k + 1) ++ A.drop (k + 1)) ++ B ++ (A.take (k + 1) ++ C.drop (k + 1)) ++ S = (P ++ C.take k) ++ (C[k]'(by omega)) :: ((A.drop (k + 1) ++ B ++ A.take k) ++ A[k] :: (C.drop (k + 1) ++ S)) := by
  rw [List.take_succ_eq_append_getElem hA, List.take_succ_eq_append_getElem (show k < C.length by omega)]
  simp only [List.append_assoc, List.cons_append, List.nil_append]
theorem sw_step {P A B C S : List Nm} {k : Nat} (hA : k < A.length) (hl : A.length = C.length) : ((P ++ (C.take k ++ A.drop k) ++ B ++ (A.take k ++ C.drop k) ++ S).set (P.length + k) (C[k]'(by omega))).set (P.length + A.length + B.length + k) A[k] = P ++ (C.take (k + 1) ++ A.drop (k + 1)) ++ B ++ (A.take (k + 1) ++ C.drop (k + 1)) ++ S := by
  rw [sw_form hA hl, set_at _ _ _ _ (by simp; omega), sw_form2 hA hl]
  have e : P.length + A.length + B.length + k = ((P ++ C.take k) ++ (C[k]'(by omega)) :: (A.drop (k + 1) ++ B ++ A.take k)).length := by simp; omega
  have f := set_at ((P ++ C.take k) ++ (C[k]'(by omega)) :: (A.drop (k + 1) ++ B ++ A.take k)) (C.drop (k + 1) ++ S) (C[k]'(by omega)) A[k] e
  simpa using f
theorem sw_len {P A B C S : List Nm} {k : Nat} (hA : k ≤ A.length) (hl : A.length = C.length) : (P ++ (C.take k ++ A.drop k) ++ B ++ (A.take k ++ C.drop k) ++ S).length = P.length + A.length + B.length + C.length + S.length := by
  simp; omega
set_option maxRecDepth 100000 in
set_option maxHeartbeats 8000000 in
theorem s_swapRange (base G cap : Nat) (P A B C S : List Nm) (cm : Value) (w : World) (hl : A.length = C.length) (hn : (P ++ A ++ B ++ C ++ S).length ≤ 100000) (H : NmAt w base G cap (P ++ A ++ B ++ C ++ S)) :
    Calls Tryz.prog 217 #[.slice (some ⟨G, 0, none⟩) (P ++ A ++ B ++ C ++ S).length cap, .int .i64 P.length, .int .i64 (P.length + A.length + B.length : Nat), .int .i64 A.length, cm] w
      fun e w' => e = .returned (.tuple #[]) ∧ NmAt w' base G cap (P ++ C ++ B ++ A ++ S) ∧ w.grownBy w' (some G) := by
  have hN : (P ++ A ++ B ++ C ++ S).length = P.length + A.length + B.length + C.length + S.length := by simp; omega
  obtain ⟨N, hNN⟩ : ∃ N, (P ++ A ++ B ++ C ++ S).length = N := ⟨_, rfl⟩
  rw [hNN] at hn hN ⊢
  obtain ⟨pa, hpa⟩ : ∃ n, P.length = n := ⟨_, rfl⟩
  obtain ⟨la, hla⟩ : ∃ n, A.length = n := ⟨_, rfl⟩
  obtain ⟨lb, hlb⟩ : ∃ n, B.length = n := ⟨_, rfl⟩
  rw [hpa, hla, hlb, ← hl, hla] at hN
  rw [hpa, hla, hlb]
  have HLA := Lib.hid hla
  have HLB := Lib.hid hlb
  have HPA := Lib.hid hpa
  have HLC := Lib.hid hl
  have hcap := Lib.hid H.caps
  have H0 := Lib.hid (show NmAt w base G cap (P ++ (C.take 0 ++ A.drop 0) ++ B ++ (A.take 0 ++ C.drop 0) ++ S) by simpa using H)
  clear H hla hlb hpa hl hNN
  go_enter Tryz.func217, Tryz.ntmps217
  go_wp2_with fail
  go_loopw [10] (fun i wr => ∃ k : Nat, k ≤ la ∧ i = .int .i64 k ∧ Hid (NmAt wr base G cap (P ++ (C.take k ++ A.drop k) ++ B ++ (A.take k ++ C.drop k) ++ S)) ∧ Hid (w.grownBy wr (some G))) (fun i _ => la - (intOf i).toNat)
  case atStart => exact ⟨0, Nat.zero_le _, rfl, H0, Lib.hid ⟨rfl, rfl, rfl, Nat.le_refl _, fun _ _ _ => rfl⟩⟩
  case round =>
    clear H0
    obtain ⟨k, hk, rfl, HK, HG⟩ := hrel
    by_cases hlt : k < la
    · have hkA : k < A.length := by rw [HLA.out]; exact hlt
      have hlen := Lib.hid (sw_len (P := P) (A := A) (B := B) (C := C) (S := S) (k := k) (by omega) HLC.out)
      have g1 := sw_get1 (P := P) (A := A) (B := B) (C := C) (S := S) hkA HLC.out
      have g2 := sw_get2 (P := P) (A := A) (B := B) (C := C) (S := S) hkA HLC.out
      have HST := Lib.hid (sw_step (P := P) (A := A) (B := B) (C := C) (S := S) hkA HLC.out)
      obtain ⟨x, hx⟩ : ∃ x, A[k] = x := ⟨_, rfl⟩
      obtain ⟨y, hy⟩ : ∃ y, C[k]'(by have := HLC.out; omega) = y := ⟨_, rfl⟩
      rw [hx] at g1 HST
      rw [hy] at g2 HST
      clear hx hy
      have c1 := HK.out.cell' g1
      have c2 := HK.out.cell' g2
      rw [HPA.out] at c1
      rw [HPA.out, HLA.out, HLB.out] at c2
      obtain ⟨c10, c11⟩ := c1
      obtain ⟨c20, c21⟩ := c2
      have z10 := HK.out.frz ((pa + k) * 2)
      have z11 := HK.out.frz ((pa + k) * 2 + 1)
      have z20 := HK.out.frz ((pa + la + lb + k) * 2)
      have z21 := HK.out.frz ((pa + la + lb + k) * 2 + 1)
      have zl := HK.out.lt.2
      have hc1 := hcap.out.1
      have hc2 := hcap.out.2
      unfold maxLen at hc2
      have i1 : (0 : Int) ≤ (pa : Int) + (k : Int) := by omega
      have i2 : (pa : Int) + (k : Int) < (N : Int) := by omega
      have i3 : (0 : Int) ≤ ((pa + la + lb : Nat) : Int) + (k : Int) := by omega
      have i4 : ((pa + la + lb : Nat) : Int) + (k : Int) < (N : Int) := by omega
      obtain ⟨xa, xp⟩ := x
      obtain ⟨ya, yp⟩ := y
      simp only at c10 c11 c20 c21
      clear g1 g2 hc1
      go_wp2_with fail
      go_region
      have h1 := HK.out.put (k := P.length + k) (by rw [hlen.out]; omega) (ya, yp)
      have h2 := h1.put (k := P.length + A.length + B.length + k) (by rw [List.length_set, hlen.out]; have := HLC.out; omega) (xa, xp)
      rw [HST.out, HPA.out, HLA.out, HLB.out] at h2
      have hj : ∀ (W : World) (a : Addr) (v : Value), a.block = G → w.grownBy W (some G) → w.grownBy (W.setCell a v) (some G) := fun W a v ha h => h.andThen (grown_set2 W a v) (fun j hj => Or.inr (by rw [← hj, ha]))
      have hg2 := hj _ ⟨G, (pa + la + lb + k) * 2 + 1, none⟩ (.pointer xp) rfl (hj _ ⟨G, (pa + la + lb + k) * 2, none⟩ (.int .i64 xa) rfl (hj _ ⟨G, (pa + k) * 2 + 1, none⟩ (.pointer yp) rfl (hj wr ⟨G, (pa + k) * 2, none⟩ (.int .i64 ya) rfl HG.out)))
      have HF := Lib.hid (And.intro h2 hg2)
      clear h1 h2 hg2 hj c10 c11 c20 c21 z10 z11 z20 z21
      obtain ⟨V, hV⟩ : ∃ V, (((wr.setCell ⟨G, (pa + k) * 2, none⟩ (.int .i64 ya)).setCell ⟨G, (pa + k) * 2 + 1, none⟩ (.pointer yp)).setCell ⟨G, (pa + la + lb + k) * 2, none⟩ (.int .i64 xa)).setCell ⟨G, (pa + la + lb + k) * 2 + 1, none⟩ (.pointer xp) = V := ⟨_, rfl⟩
      rw [hV] at HF ⊢
      clear hV
      go_wp2_with fail
      exact ⟨⟨k + 1, by omega, by go_num, Lib.hid HF.out.1, Lib.hid (show w.grownBy V.drew (some G) from ⟨HF.out.2.os, HF.out.2.tape, HF.out.2.output, HF.out.2.size, HF.out.2.block⟩)⟩, by simp only [intOf]; omega⟩
    · obtain rfl : k = la := by omega
      go_wp2_with fail
      go_end0
      refine ⟨rfl, ?_, HG.out⟩
      have hh := HK.out
      rw [List.take_of_length_le (show C.length ≤ k by rw [← HLC.out, HLA.out]; omega), List.drop_eq_nil_of_le (show A.length ≤ k by rw [HLA.out]; omega), List.take_of_length_le (show A.length ≤ k by rw [HLA.out]; omega), List.drop_eq_nil_of_le (show C.length ≤ k by rw [← HLC.out, HLA.out]; omega)] at hh
      simpa using hh
end Go.Proofs.YtanaoohgpdcfjaaGreatDoor
