/- Part 36 of the proof of TopWall: no condition; what its declarations say stands at each. -/
import Derived.Test.YthppifcggmdmoaaGreatDoorW34
import Derived.Test.YthppifcggmdmoaaGreatDoorW35
import Derived.Test.YthppifcggmdmoaaGreatDoorW15
import Derived.Deep.Cut
import Derived.Deep.CutRange
import Derived.Deep.AppendLies
import Derived.Deep.Onto
import Derived.Deep.RegionHeld3
import Derived.Deep.DrawnRows
namespace Go.Proofs.YthppifcggmdmoaaGreatDoor
open Go.RowKit
set_option linter.unusedVariables false
def zS (u : TuT) : Bool := u.2.1 == 0
def fstL (l : List TuT) : ByteArray := if 0 ≤ idxOfF zS l 0 then (l.getD (idxOfF zS l 0).toNat default).2.2 else dASH
theorem fstL_none {l : List TuT} (h : ∀ j (hj : j < l.length), zS l[j] = false) : fstL l = dASH := by unfold fstL; rw [idxOfF_none 0 h]; rfl
theorem fstL_at {l : List TuT} {k : Nat} (hk : k < l.length) (h1 : ∀ j (hj : j < l.length), j < k → zS l[j] = false) (h2 : zS l[k] = true) : fstL l = l[k].2.2 := by
 have h := idxOfF_at hk 0 h1 h2
 rw [Nat.zero_add] at h
 unfold fstL
 rw [h, if_pos (by omega)]
 simp [List.getD, hk]
theorem fstL_nil : fstL [] = dASH := rfl
def tuCh (l : List TuT) : List Ch := l.map fun u => (u.1, 0)
def tuCount (l : List TuT) (t : Int) : Nat := chCount (tuCh l) t
def TuSorted (l : List TuT) : Prop := l.Pairwise fun a b => a.1 < b.1
theorem tuCh_sorted {l : List TuT} (h : TuSorted l) : (tuCh l).Pairwise (fun a b => a.1 < b.1) := List.pairwise_map.2 h
theorem tuCount_spec {l : List TuT} (h : TuSorted l) (t : Int) : tuCount l t ≤ l.length ∧ (∀ i (hi : i < l.length), i < tuCount l t → l[i].1 ≤ t) ∧ (∀ i (hi : i < l.length), tuCount l t ≤ i → t < l[i].1) := by
 obtain ⟨h1, h2, h3⟩ := chCount_spec (tuCh_sorted h) t
 have e : (tuCh l).length = l.length := by simp [tuCh]
 refine ⟨by rw [e] at h1; exact h1, fun i hi hlt => ?_, fun i hi hle => ?_⟩
 ·have := h2 i (by rw [e]; exact hi) hlt; simpa [tuCh] using this
 ·have := h3 i (by rw [e]; exact hi) hle; simpa [tuCh] using this
def stS (x : ErT) (l : List TuT) (t : Int) : Int × ByteArray := if tuCount l t = 0 then (x.save, fstL l) else (l.getD (tuCount l t - 1) default).2
def typeV (x : ErT) (l : List TuT) (t : Int) : Ty := (x.off + (stS x l t).1, decide (0 < (stS x l t).1), abV x.format (stS x l t).1 (stS x l t).2)
def trnE (rs : List RuT) (x : ErT) : Int := if sEq x.rules eMT = true then 0 else turnE rs x.rules x.off
def trnL (rs : List RuT) (x : ErT) : List TuT := if sEq x.rules eMT = true then [] else turnL rs x.rules x.off
theorem trn_no {rs : List RuT} {x : ErT} (h : sEq x.rules eMT = true) : trnE rs x = 0 ∧ trnL rs x = [] := by simp [trnE, trnL, h]
theorem trn_yes {rs : List RuT} {x : ErT} (h : sEq x.rules eMT = false) : trnE rs x = turnE rs x.rules x.off ∧ trnL rs x = turnL rs x.rules x.off := by simp [trnE, trnL, h]
def unCh (es : List ErT) : List Ch := es.dropLast.map fun x => (x.until_, 0)
def eraI (es : List ErT) (t : Int) : Nat := chCount (unCh es) t
def ErSorted (es : List ErT) : Prop := es.dropLast.Pairwise fun a b => a.until_ < b.until_
theorem unCh_len (es : List ErT) : (unCh es).length = es.length - 1 := by simp [unCh]
theorem unCh_sorted {es : List ErT} (h : ErSorted es) : (unCh es).Pairwise (fun a b => a.1 < b.1) := List.pairwise_map.2 h
theorem eraI_spec {es : List ErT} (h : ErSorted es) (t : Int) : eraI es t ≤ es.length - 1 ∧ (∀ i (hi : i < es.length), i < eraI es t → es[i].until_ ≤ t) ∧ (∀ i (hi : i < es.length - 1), eraI es t ≤ i → t < es[i].until_) := by
 obtain ⟨h1, h2, h3⟩ := chCount_spec (unCh_sorted h) t
 have e := unCh_len es
 rw [e] at h1
 refine ⟨h1, fun i hi hlt => ?_, fun i hi hle => ?_⟩
 ·have hlt' : i < es.length - 1 := by have : eraI es t ≤ es.length - 1 := h1; omega
  have := h2 i (by rw [e]; exact hlt') hlt; simpa [unCh] using this
 ·have := h3 i (by rw [e]; exact hi) hle; simpa [unCh] using this
theorem ersorted_of {rs : List RuT} {es : List ErT} (h : firE (erE rs es) es.length = 0) : ErSorted es := by
 have hk : ∀ k, 0 < k → k + 1 < es.length → es[k - 1]!.until_ < es[k]!.until_ := by
  intro k h0 hk
  have h1 := firE_inv h k (by omega)
  rw [erE] at h1
  split at h1
  ·rw [erE2, if_neg (by omega)] at h1
   split at h1
   ·cases h1
   ·split at h1
    ·cases h1
    ·split at h1
     ·cases h1
     ·rename_i h4
      omega
  ·rename_i h2; exact absurd h1 h2
 unfold ErSorted
 rw [List.pairwise_iff_getElem]
 intro i j hi hj hij
 rw [List.length_dropLast] at hi hj
 rw [List.getElem_dropLast, List.getElem_dropLast]
 have ind : ∀ n, i + 1 + n < es.length - 1 → es[i]!.until_ < es[i + 1 + n]!.until_ := by
  intro n
  induction n with
  | zero => intro hn; have := hk (i + 1) (by omega) (by omega); rwa [Nat.add_sub_cancel] at this
  | succ n ih =>
   intro hn
   have h1 := ih (by omega)
   have h2 := hk (i + 1 + (n + 1)) (by omega) (by omega)
   rw [show i + 1 + (n + 1) - 1 = i + 1 + n by omega] at h2
   omega
 have := ind (j - (i + 1)) (by omega)
 rw [show i + 1 + (j - (i + 1)) = j by omega, get_bang (by omega), get_bang (by omega)] at this
 exact this
theorem turnL_sorted (rs : List RuT) (nm : ByteArray) (off : Int) : TuSorted (turnL rs nm off) := by
 unfold turnL
 split
 ·rename_i h
  have hup : tuUp off (turnS rs nm) = true := by
   unfold turnE at h
   split at h
   ·cases h
   ·split at h
    ·cases h
    ·split at h
     ·assumption
     ·cases h
  rw [tuUp, List.all_eq_true] at hup
  have hk : ∀ k, 0 < k → k < (turnS rs nm).length → (tuV off (turnS rs nm) (k - 1)).1 < (tuV off (turnS rs nm) k).1 := by
   intro k h0 hk
   have h1 := hup k (List.mem_range.2 hk)
   have h2 : tuBad off (turnS rs nm) k = false := by simpa using h1
   have h3 := of_decide_eq_false h2
   omega
  unfold TuSorted tuL
  rw [List.pairwise_iff_getElem]
  intro i j hi hj hij
  simp only [List.length_map, List.length_range] at hi hj
  simp only [List.getElem_map, List.getElem_range]
  have ind : ∀ n, i + 1 + n < (turnS rs nm).length → (tuV off (turnS rs nm) i).1 < (tuV off (turnS rs nm) (i + 1 + n)).1 := by
   intro n
   induction n with
   | zero => intro hn; have := hk (i + 1) (by omega) (by omega); rwa [Nat.add_sub_cancel] at this
   | succ n ih =>
    intro hn
    have h1 := ih (by omega)
    have h2 := hk (i + 1 + (n + 1)) (by omega) (by omega)
    rw [show i + 1 + (n + 1) - 1 = i + 1 + n by omega] at h2
    omega
  have := ind (j - (i + 1)) (by omega)
  rwa [show i + 1 + (j - (i + 1)) = j by omega] at this
 ·exact List.Pairwise.nil
theorem trnL_sorted (rs : List RuT) (x : ErT) : TuSorted (trnL rs x) := by
 unfold trnL
 split
 ·exact List.Pairwise.nil
 ·exact turnL_sorted _ _ _
def TuB (u : TuT) : Prop := (-30000000000 ≤ u.1 ∧ u.1 ≤ 30000000000) ∧ (0 ≤ u.2.1 ∧ u.2.1 ≤ 10800)
theorem turnL_len (rs : List RuT) (nm : ByteArray) (off : Int) : (turnL rs nm off).length ≤ 1500 := by
 unfold turnL
 split
 ·rename_i h
  rw [tuL_len]
  unfold turnE at h
  split at h
  ·cases h
  ·split at h
   ·cases h
   ·rw [turnS, ssort_len Prod.fst _ _ rfl, noms_len]; omega
 ·simp
theorem turnL_mem {rs : List RuT} {nm : ByteArray} {off : Int} (hb : ∀ r ∈ rs, RuB r) (h1 : -100000 ≤ off) (h2 : off ≤ 100000) : ∀ u ∈ turnL rs nm off, TuB u ∧ ∃ r ∈ rs, sEq r.name nm = true ∧ u.2 = (r.sv, r.letter) := by
 intro u hu
 unfold turnL at hu
 split at hu
 ·obtain ⟨i, hi, rfl⟩ := List.mem_map.1 hu
  rw [List.mem_range] at hi
  have hz := List.getElem_mem hi
  have hd : (turnS rs nm).getD i default = (turnS rs nm)[i] := by simp [List.getD, hi]
  obtain ⟨h3, y, h4⟩ := noms_mem ((ssort_mem Prod.fst _ _ rfl _).1 hz)
  obtain ⟨h5, h6⟩ := List.mem_filter.1 h3
  have hB := hb _ h5
  have hT := ruT_bd hB y
  rw [← h4] at hT
  have hp : 0 ≤ prevS (turnS rs nm) i ∧ prevS (turnS rs nm) i ≤ 10800 := by
   unfold prevS
   split
   ·omega
   ·have hi2 : i - 1 < (turnS rs nm).length := by omega
    have hz2 := List.getElem_mem hi2
    obtain ⟨h7, _, _⟩ := noms_mem ((ssort_mem Prod.fst _ _ rfl _).1 hz2)
    have := (hb _ (List.mem_filter.1 h7).1).2.2.2
    simpa [List.getD, hi2] using this
  refine ⟨?_, _, h5, h6, ?_⟩
  ·unfold tuV TuB
   rw [hd]
   have hv := hB.2.2.2
   refine ⟨?_, hv⟩
   unfold byOff
   split
   ·simp only; omega
   ·split <;> simp only <;> omega
  ·unfold tuV; rw [hd]
 ·cases hu
theorem trnL_len (rs : List RuT) (x : ErT) : (trnL rs x).length ≤ 1500 := by
 unfold trnL
 split
 ·simp
 ·exact turnL_len _ _ _
end Go.Proofs.YthppifcggmdmoaaGreatDoor
namespace Go.Proofs.YthppifcggmdmoaaGreatDoor
open Go.RowKit
set_option linter.unusedVariables false
attribute [local go_sem ↓] Go.wp_at_zero Go.wp_at_succ
theorem f_s0 (u : TuT) (w : World) :
  Calls Tryz.prog 83 #[.agg #[.int .i64 u.1, .int .i64 u.2.1, .string u.2.2]] w fun e w' => e = .returned (.bool (zS u)) ∧ Below w.heap.size w w' := by
 have hb : Below w.heap.size w (w.alloc (.cells #[.int .i64 u.1, .int .i64 u.2.1, .string u.2.2] 149)) := (by repeat (first | exact Below.refl _ _ | assumption | apply Below.drew | apply below_drewN | (refine Below.alloc ?_ (by simp; try omega) _) | (refine Below.setCell ?_ (by simp; try omega) _)))
 go_enter Tryz.func83, Tryz.ntmps83
 go_wp2_with fail
 go_ret
 exact ⟨rfl, hb⟩
set_option maxRecDepth 100000 in
set_option maxHeartbeats 1000000 in
theorem s_ixTu (A : Option Addr) (cap : Nat) (l : List TuT) (w : World) (hA : SlAt w w.heap.size 3 A (l.map tuCells)) (h1 : l.length ≤ cap) (m1 : cap ≤ maxLen) :
  Calls Tryz.prog 82 #[.slice A l.length cap, .func (.func 83) #[] #[]] w fun e w' => e = .returned (.int .i64 (idxOfF zS l 0)) ∧ Below w.heap.size w w' := by
 unfold maxLen at m1
 go_enter Tryz.func82, Tryz.ntmps82
 go_wp2_with fail
 go_loopw [8] (fun i wr => ∃ k : Nat, k ≤ l.length ∧ i = .int .i64 k ∧ Hid (∀ j (hj : j < l.length), j < k → zS l[j] = false) ∧ Below w.heap.size w wr) (fun i _ => l.length - (intOf i).toNat)
 case atStart => exact ⟨0, Nat.zero_le _, rfl, Lib.hid (fun j hj h => absurd h (by omega)), Below.refl _ _⟩
 case round =>
  obtain ⟨k, hk, rfl, HN, hB⟩ := hrel
  by_cases hlt : k < l.length
  ·obtain ⟨b, o, rfl, hb, c0, c1, c2⟩ := tu_at (hA.below hB) hlt
   have hz := hB.size
   have hi1 : (0 : Int) ≤ (k : Int) := by omega
   have hi2 : (k : Int) < (l.length : Int) := by omega
   have hF := Lib.hid (f_s0 l[k] wr)
   have HE := Lib.hid (fun (h : zS l[k] = true) => idxOfF_at (p := zS) hlt 0 HN.out h)
   have HG := Lib.hid (fun (h : zS l[k] = false) j (hj : j < l.length) (h2 : j < k + 1) => (if h3 : j < k then HN.out j hj h3 else (by obtain rfl : j = k := (by omega); exact h) : zS l[j] = false))
   obtain ⟨x, hx⟩ : ∃ x, l[k] = x := ⟨_, rfl⟩
   simp only [hx] at c0 c1 c2 hF HE HG
   clear hx HN
   cases hs : zS x with
   | true =>
    rw [hs] at hF
    have HE2 := Lib.hid (HE.out hs)
    clear HE HG hs
    go_wp2_with fail
    refine hF.out.mono ?_
    rintro e w2 ⟨rfl, hb2⟩
    have hb3 := hB.trans (hb2.mono hz)
    clear hb2
    go_wp2_with fail
    go_ret
    exact ⟨ret_int (by rw [HE2.out]; simp), hb3⟩
   | false =>
    rw [hs] at hF
    have HG2 := Lib.hid (HG.out hs)
    clear HE HG hs
    go_wp2_with fail
    refine hF.out.mono ?_
    rintro e w2 ⟨rfl, hb2⟩
    have hb3 := hB.trans (hb2.mono hz)
    clear hb2
    go_wp2_with fail
    exact ⟨⟨k + 1, by omega, by go_num, HG2, hb3⟩, by simp [intOf]; omega⟩
  ·obtain rfl : k = l.length := by omega
   have HE := Lib.hid (idxOfF_none (p := zS) (l := l) 0 (fun j hj => HN.out j hj hj))
   clear HN
   go_wp2_with fail
   go_ret
   exact ⟨ret_int (by rw [HE.out]), hB⟩
end Go.Proofs.YthppifcggmdmoaaGreatDoor
namespace Go.Proofs.YthppifcggmdmoaaGreatDoor
open Go.RowKit
set_option linter.unusedVariables false
attribute [local go_sem ↓] Go.wp_at_zero Go.wp_at_succ
set_option maxHeartbeats 1000000 in
theorem w_1 (i n cap b o b1 b2 : Nat) (v time : Int) (W : World) (hi : i < n) (hc : n ≤ cap) (hm : cap ≤ maxLen) (h1 : W.cell? ⟨b1, 0, none⟩ = some (.slice (some ⟨b, o, none⟩) n cap)) (h2 : W.cell? ⟨b2, 0, none⟩ = some (.int .i64 time))
  (h3 : W.cell? ⟨b, o + i * 5 + 4, none⟩ = some (.int .i64 v)) :
  Calls Tryz.prog 85 #[.int .i64 (i : Int), .pointer (some ⟨b1, 0, none⟩), .pointer (some ⟨b2, 0, none⟩)] W fun e w' => e = .returned (.bool (decide (time < v))) ∧ ∃ q, w' = W.drewN q := by
 unfold maxLen at hm
 have hi1 : (0 : Int) ≤ (i : Int) := by omega
 have hi2 : (i : Int) < (n : Int) := by omega
 go_enter Tryz.func85, Tryz.ntmps85
 go_wp2_with fail
 go_quiet (fail)
 go_wp2_with fail
 go_ret
 exact ⟨rfl, _, rfl⟩
theorem w_Search (A : Option Addr) (cap : Nat) (es : List ErT) (t : Int) (W : World) (b1 b2 : Nat) (hA : SlAt W W.heap.size 5 A (es.map erC)) (hc : es.length ≤ cap) (hm : cap ≤ maxLen) (hs : ErSorted es)
  (h1 : W.cell? ⟨b1, 0, none⟩ = some (.slice A es.length cap)) (h2 : W.cell? ⟨b2, 0, none⟩ = some (.int .i64 t)) (hb1 : b1 < W.heap.size) (hb2 : b2 < W.heap.size) (hn : es.length ≤ 100000) (h0 : 0 < es.length) :
  Calls Tryz.prog 84 #[.int .i64 ((es.length - 1 : Nat) : Int), .func (.func 85) #[] #[.pointer (some ⟨b1, 0, none⟩), .pointer (some ⟨b2, 0, none⟩)]] W
   fun e w' => e = .returned (.int .i64 (eraI es t : Nat)) ∧ Below W.heap.size W w' := by
 have hul := unCh_len es
 have hd : ∀ i (hi : i < es.length - 1), (unCh es).getD i (0, 0) = ((es[i]'(by omega)).until_, 0) := by
  intro i hi
  simp [unCh, List.getD, hi]
 have he : eraI es t = (List.range (es.length - 1)).countP (fun i => !decide (t < ((unCh es).getD i (0, 0)).1)) := by unfold eraI chCount; rw [hul]
 rw [he]
 refine (Any.sort_Search Tryz.search 85 #[.pointer (some ⟨b1, 0, none⟩), .pointer (some ⟨b2, 0, none⟩)] (es.length - 1) (fun i => decide (t < ((unCh es).getD i (0, 0)).1)) W (enters_of Tryz.func85 (by kernel_rfl) rfl) (by omega) ?_ ?_).mono ?_
 ·intro m os i hi
  have hbl := below_grown_sl W.heap.size W m os (Nat.le_refl _)
  obtain ⟨b, o, hA', hb, c0, c1, c2, c3, c4⟩ := er_at (hA.below hbl) (show i < es.length by omega)
  rw [hd i hi]
  subst hA'
  refine (w_1 i es.length cap b o b1 b2 _ t _ (by omega) hc hm ((hbl.cell (by exact hb1)).trans h1) ((hbl.cell (by exact hb2)).trans h2) c4).mono ?_
  rintro e w' ⟨rfl, q, rfl⟩
  exact ⟨rfl, q, #[], by rw [Go.Sort.grow_empty]⟩
 ·intro a b hab hb h
  rw [hd a (by omega)] at h; rw [hd b hb]
  by_cases e : a = b
  ·subst e; exact h
  ·have h3 := sorted_at (unCh_sorted hs) (j := b) (by rw [hul]; exact hb) (show a < b by omega)
   have e1 : ((unCh es)[a]'(by rw [hul]; omega)).1 = (es[a]'(by omega)).until_ := by simp [unCh]
   have e2 : ((unCh es)[b]'(by rw [hul]; exact hb)).1 = (es[b]'(by omega)).until_ := by simp [unCh]
   rw [e1, e2] at h3
   simp at h ⊢; omega
 ·rintro e w' ⟨rfl, q, os, rfl⟩
  exact ⟨rfl, below_grown_sl W.heap.size W q os (Nat.le_refl _)⟩
set_option maxRecDepth 100000 in
set_option maxHeartbeats 1000000 in
theorem s_Which (A : Option Addr) (cap : Nat) (es : List ErT) (t : Int) (w : World) (hA : SlAt w w.heap.size 5 A (es.map erC)) (hc : es.length ≤ cap) (hm : cap ≤ maxLen) (hs : ErSorted es) (hn : es.length ≤ 100000) (h0 : 0 < es.length) :
  Calls Tryz.prog 46 #[.slice A es.length cap, .int .i64 t] w fun e w' => e = .returned (.int .i64 (eraI es t : Nat)) ∧ Below w.heap.size w w' := by
 have hb1 := (Below.refl w.heap.size w).alloc (Nat.le_refl _) (.cells #[.slice A es.length cap] 73)
 have hb2 := hb1.alloc (by rw [size_alloc]; omega) (.cells #[.int .i64 t] 3)
 have k1 := (Blk.new w #[.slice A es.length cap] 73).alloc (.cells #[.int .i64 t] 3)
 have k2 := Blk.new (w.alloc (.cells #[.slice A es.length cap] 73)) #[.int .i64 t] 3
 rw [size_alloc] at k2
 have HS := Lib.hid (w_Search A cap es t _ w.heap.size (w.heap.size + 1) ((hA.below hb2).more hb2.size) hc hm hs (k1.cell 0) (k2.cell 0) k1.lt k2.lt hn h0)
 have HB := Lib.hid hb2
 obtain ⟨n, hn'⟩ : ∃ n, es.length = n + 1 := ⟨es.length - 1, by omega⟩
 rw [hn'] at HS HB hn ⊢
 rw [Nat.add_sub_cancel] at HS
 have hw1 : IntKind.i64.wrap (((n + 1 : Nat) : Int) - 1) = (n : Int) := by rw [show ((n + 1 : Nat) : Int) - 1 = n by omega]; exact IntWalk.i64_in _ (by omega)
 have hw2 : ((n + 1 : Nat) : Int) - 1 = (n : Int) := by omega
 have hw3 : (n : Int) + 1 - 1 = (n : Int) := by omega
 clear hb1 hb2 k1 k2 hA hc hm hs hn' h0
 go_enter Tryz.func46, Tryz.ntmps46
 go_wp2_with fail
 refine HS.out.mono ?_
 rintro e w1 ⟨rfl, hb⟩
 have HF := Lib.hid (HB.out.trans (hb.mono HB.out.size))
 clear hb HS
 go_wp2_with fail
 go_ret
 exact ⟨rfl, HF.out⟩
end Go.Proofs.YthppifcggmdmoaaGreatDoor
namespace Go.Proofs.YthppifcggmdmoaaGreatDoor
open Go.RowKit
set_option linter.unusedVariables false
attribute [local go_sem ↓] Go.wp_at_zero Go.wp_at_succ
theorem blk3 {W : World} {b : Nat} {t : TypeId} {u0 u1 u2 x y z : Value} (h : Blk W b t #[u0, u1, u2]) : Blk (((W.setCell ⟨b, 0, none⟩ x).setCell ⟨b, 1, none⟩ y).setCell ⟨b, 2, none⟩ z) b t #[x, y, z] := ((h.set 0 x).set 1 y).set 2 z
abbrev trdA (x : ErT) (A : Option Addr) (n cap : Nat) (f : ByteArray) : Array Value := #[.int .i64 x.off, .string x.rules, .int .i64 x.save, .string x.format, .int .i64 x.until_, .slice A n cap, .string f]
set_option maxHeartbeats 1000000 in
theorem ta_1 (i n cap b o b1 b2 : Nat) (v time : Int) (W : World) (hi : i < n) (hc : n ≤ cap) (hm : cap ≤ maxLen) (h1 : W.cell? ⟨b1, 5, none⟩ = some (.slice (some ⟨b, o, none⟩) n cap)) (h2 : W.cell? ⟨b2, 0, none⟩ = some (.int .i64 time))
  (h3 : W.cell? ⟨b, o + i * 3, none⟩ = some (.int .i64 v)) :
  Calls Tryz.prog 86 #[.int .i64 (i : Int), .pointer (some ⟨b1, 0, none⟩), .pointer (some ⟨b2, 0, none⟩)] W fun e w' => e = .returned (.bool (decide (time < v))) ∧ ∃ q, w' = W.drewN q := by
 unfold maxLen at hm
 have hi1 : (0 : Int) ≤ (i : Int) := by omega
 have hi2 : (i : Int) < (n : Int) := by omega
 go_enter Tryz.func86, Tryz.ntmps86
 go_wp2_with fail
 go_quiet (fail)
 go_wp2_with fail
 go_ret
 exact ⟨rfl, _, rfl⟩
theorem ta_Search (A : Option Addr) (cap : Nat) (l : List TuT) (t : Int) (W : World) (b1 b2 : Nat) (hA : SlAt W W.heap.size 3 A (l.map tuCells)) (hc : l.length ≤ cap) (hm : cap ≤ maxLen) (hs : TuSorted l)
  (h1 : W.cell? ⟨b1, 5, none⟩ = some (.slice A l.length cap)) (h2 : W.cell? ⟨b2, 0, none⟩ = some (.int .i64 t)) (hb1 : b1 < W.heap.size) (hb2 : b2 < W.heap.size) (hn : l.length ≤ 100000) :
  Calls Tryz.prog 84 #[.int .i64 (l.length : Int), .func (.func 86) #[] #[.pointer (some ⟨b1, 0, none⟩), .pointer (some ⟨b2, 0, none⟩)]] W
   fun e w' => e = .returned (.int .i64 (tuCount l t : Nat)) ∧ Below W.heap.size W w' := by
 have hul : (tuCh l).length = l.length := by simp [tuCh]
 have hd : ∀ i (hi : i < l.length), (tuCh l).getD i (0, 0) = (l[i].1, 0) := by
  intro i hi
  simp [tuCh, List.getD, hi]
 have he : tuCount l t = (List.range l.length).countP (fun i => !decide (t < ((tuCh l).getD i (0, 0)).1)) := by unfold tuCount chCount; rw [hul]
 rw [he]
 refine (Any.sort_Search Tryz.search 86 #[.pointer (some ⟨b1, 0, none⟩), .pointer (some ⟨b2, 0, none⟩)] l.length (fun i => decide (t < ((tuCh l).getD i (0, 0)).1)) W (enters_of Tryz.func86 (by kernel_rfl) rfl) (by omega) ?_ ?_).mono ?_
 ·intro m os i hi
  have hbl := below_grown_sl W.heap.size W m os (Nat.le_refl _)
  obtain ⟨b, o, hA', hb, c0, c1, c2⟩ := tu_at (hA.below hbl) hi
  rw [hd i hi]
  subst hA'
  refine (ta_1 i l.length cap b o b1 b2 _ t _ hi hc hm ((hbl.cell (by exact hb1)).trans h1) ((hbl.cell (by exact hb2)).trans h2) c0).mono ?_
  rintro e w' ⟨rfl, q, rfl⟩
  exact ⟨rfl, q, #[], by rw [Go.Sort.grow_empty]⟩
 ·intro a b hab hb h
  rw [hd a (by omega)] at h; rw [hd b hb]
  by_cases e : a = b
  ·subst e; exact h
  ·have h3 := (List.pairwise_iff_getElem.1 hs) a b (by omega) hb (by omega)
   simp at h ⊢; omega
 ·rintro e w' ⟨rfl, q, os, rfl⟩
  exact ⟨rfl, below_grown_sl W.heap.size W q os (Nat.le_refl _)⟩
def TuOk (l : List TuT) : Prop := ∀ u ∈ l, (0 ≤ u.2.1 ∧ u.2.1 ≤ 10800) ∧ u.2.2.size ≤ maxLen
theorem fstL_size {l : List TuT} (h : TuOk l) : (fstL l).size ≤ maxLen := by
 unfold fstL
 split
 ·by_cases hk : (idxOfF zS l 0).toNat < l.length
  ·have := (h _ (List.getElem_mem hk)).2
   simpa [List.getD, hk] using this
  ·have : l.getD (idxOfF zS l 0).toNat default = default := by simp only [List.getD]; rw [List.getElem?_eq_none (by omega)]; rfl
   rw [this]; show (0 : Nat) ≤ maxLen; omega
 ·show (1 : Nat) ≤ maxLen; unfold maxLen; omega
theorem stS_ok {x : ErT} {l : List TuT} (t : Int) (hs : TuSorted l) (h : TuOk l) (hx : 0 ≤ x.save ∧ x.save ≤ 10800) : (0 ≤ (stS x l t).1 ∧ (stS x l t).1 ≤ 10800) ∧ (stS x l t).2.size ≤ maxLen := by
 unfold stS
 split
 ·exact ⟨hx, fstL_size h⟩
 ·have h1 := (tuCount_spec hs t).1
  have hk : tuCount l t - 1 < l.length := by omega
  have h2 := h _ (List.getElem_mem hk)
  simpa [List.getD, hk] using h2
set_option maxRecDepth 100000 in
set_option maxHeartbeats 4000000 in
theorem s_TAt (x : ErT) (A : Option Addr) (cap : Nat) (l : List TuT) (t : Int) (w : World) (hA : SlAt w w.heap.size 3 A (l.map tuCells)) (hc : l.length ≤ cap) (hm : cap ≤ maxLen) (hs : TuSorted l) (hn : l.length ≤ 1500) (ho : TuOk l) (hx : 0 ≤ x.save ∧ x.save ≤ 10800) (hx2 : -100000 ≤ x.off ∧ x.off ≤ 100000) :
  Calls Tryz.prog 48 #[.agg (trdA x A l.length cap (fstL l)), .int .i64 t] w fun e w' => e = .returned (.agg #[.int .i64 (typeV x l t).1, .bool (typeV x l t).2.1, .string (typeV x l t).2.2]) ∧ Below w.heap.size w w' := by
 have hb1 := (Below.refl w.heap.size w).alloc (Nat.le_refl _) (.cells (trdA x A l.length cap (fstL l)) 107)
 have hb2 := hb1.alloc (by rw [size_alloc]; omega) (.cells #[.int .i64 t] 3)
 have hb3 := hb2.alloc (by rw [size_alloc, size_alloc]; omega) (.cells #[.int .i64 0, .bool false, .string ⟨#[]⟩] 56)
 have k1 := ((Blk.new w (trdA x A l.length cap (fstL l)) 107).alloc (.cells #[.int .i64 t] 3)).alloc (.cells #[.int .i64 0, .bool false, .string ⟨#[]⟩] 56)
 have k2 := (Blk.new (w.alloc (.cells (trdA x A l.length cap (fstL l)) 107)) #[.int .i64 t] 3).alloc (.cells #[.int .i64 0, .bool false, .string ⟨#[]⟩] 56)
 have k3 := Blk.new ((w.alloc (.cells (trdA x A l.length cap (fstL l)) 107)).alloc (.cells #[.int .i64 t] 3)) #[.int .i64 0, .bool false, .string ⟨#[]⟩] 56
 rw [size_alloc] at k2
 rw [size_alloc, size_alloc] at k3
 have hst := stS_ok (x := x) t hs ho hx
 have hts := tuCount_spec hs t
 have HO := Lib.hid (And.intro hst hts)
 obtain ⟨W, hW⟩ : ∃ W, ((w.alloc (.cells (trdA x A l.length cap (fstL l)) 107)).alloc (.cells #[.int .i64 t] 3)).alloc (.cells #[.int .i64 0, .bool false, .string ⟨#[]⟩] 56) = W := ⟨_, rfl⟩
 have HWz := Lib.hid (show W.heap.size = w.heap.size + 3 by rw [← hW, size_alloc, size_alloc, size_alloc])
 rw [hW] at hb3 k1 k2 k3
 have HS := Lib.hid (fun (V : World) (hb : Below W.heap.size W V) => ta_Search A cap l t V w.heap.size (w.heap.size + 1) ((hA.below (hb3.trans (hb.mono hb3.size))).more (by have := hb3.size; have := hb.size; omega)) hc hm hs ((k1.step hb).cell 5) ((k2.step hb).cell 0) (k1.step hb).lt (k2.step hb).lt (by omega))
 have HA := Lib.hid (fun (V : World) (hb : Below W.heap.size W V) => hA.below (hb3.trans (hb.mono hb3.size)))
 have HB := Lib.hid hb3
 have HK1 := Lib.hid k1
 have HK3 := Lib.hid k3
 have HTV := Lib.hid (show typeV x l t = (x.off + (stS x l t).1, decide (0 < (stS x l t).1), abV x.format (stS x l t).1 (stS x l t).2) from rfl)
 have HST := Lib.hid (show stS x l t = if tuCount l t = 0 then (x.save, fstL l) else (l.getD (tuCount l t - 1) default).2 from rfl)
 obtain ⟨ty, hty⟩ : ∃ ty, typeV x l t = ty := ⟨_, rfl⟩
 obtain ⟨p, hp⟩ : ∃ p, stS x l t = p := ⟨_, rfl⟩
 obtain ⟨k, hk⟩ : ∃ k, tuCount l t = k := ⟨_, rfl⟩
 obtain ⟨f, hf⟩ : ∃ f, fstL l = f := ⟨_, rfl⟩
 rw [hty] at HTV ⊢
 rw [hp] at HTV HST HO
 rw [hk] at HST HO HS
 rw [hf] at HST HK1 hW ⊢
 obtain ⟨b0, hb0⟩ : ∃ b, w.heap.size = b := ⟨_, rfl⟩
 have Hb0 := Lib.hid hb0
 have HBr := Lib.hid (Below.refl W.heap.size W)
 unfold maxLen at hm
 clear hb1 hb2 hb3 k1 k2 k3 hst hts hA hs ho hty hp hk hf hb0
 go_enter Tryz.func48, Tryz.ntmps48
 go_upto_region 1 with fail
 rw [Hb0.out] at HK1 HK3 HS HB HA ⊢
 have kr := HK1.out.cell
 have kl := HK1.out.lt
 clear hW
 go_quiet (fail)
 rename_i nq
 have hq := below_drewN (Below.refl W.heap.size W) nq
 replace HK1 := Lib.hid (HK1.out.step hq)
 replace HK3 := Lib.hid (HK3.out.step hq)
 replace HBr := Lib.hid hq
 clear kr kl hq
 revert HK1 HK3 HBr
 generalize W.drewN nq = V
 intro HK1 HK3 HBr
 have kr := HK1.out.cell
 have kl := HK1.out.lt
 go_wp2_with fail
 refine (HS.out V HBr.out).mono ?_
 rintro e w2 ⟨rfl, hb2⟩
 replace HK1 := Lib.hid (HK1.out.step hb2)
 replace HK3 := Lib.hid (HK3.out.step hb2)
 replace HBr := Lib.hid (HBr.out.trans (hb2.mono HBr.out.size))
 clear hb2 kr kl HS
 have kr := HK1.out.cell
 have kl := HK1.out.lt
 obtain ⟨sv, lt⟩ := p
 obtain ⟨⟨⟨hsv0, hsv1⟩, hlt⟩, hk1, _, _⟩ := HO.out
 simp only at hsv0 hsv1 hlt
 have HAB := Lib.hid (fun (V : World) => b_Abbr x.format lt sv hlt V)
 have hlt' := Lib.hid hlt
 clear hlt
 go_upto_if 21 with fail
 go_cut [5, 6] from 10 (fun v5 v6 wx => v5 = .int .i64 sv ∧ v6 = .string lt ∧ Hid (Blk wx b0 107 (trdA x A l.length cap f)) ∧ Hid (Blk wx (b0 + 1 + 1) 56 #[.int .i64 0, .bool false, .string ⟨#[]⟩]) ∧ Hid (Below W.heap.size W wx))
 case first =>
  by_cases h0 : k = 0
  ·have e := HST.out
   rw [if_pos h0] at e
   obtain ⟨rfl, rfl⟩ := Prod.mk.injEq .. ▸ e
   have h1 : ¬ (0 : Int) < (k : Int) := by omega
   clear e h0
   go_wp2_with fail
   go_meet
   exact ⟨rfl, rfl, HK1, HK3, HBr⟩
  ·have hkl : k - 1 < l.length := by omega
   have h1 : (0 : Int) < (k : Int) := by omega
   have hi1 : (0 : Int) ≤ (k : Int) - 1 := by omega
   have hi2 : (k : Int) - 1 < (l.length : Int) := by omega
   obtain ⟨b, o, rfl, hb, c0, c1, c2⟩ := tu_at (HA.out _ HBr.out) hkl
   have e := HST.out
   rw [if_neg h0, show l.getD (k - 1) default = l[k - 1] by simp [List.getD, hkl]] at e
   have e1 : l[k - 1].2.1 = sv := by rw [← e]
   have e2 : l[k - 1].2.2 = lt := by rw [← e]
   rw [e1] at c1
   rw [e2] at c2
   clear e e1 e2 c0 h0
   go_wp2_with fail
   go_quiet (fail)
   rename_i nq
   have hq := below_drewN (Below.refl w2.heap.size w2) nq
   have HK1' := Lib.hid (HK1.out.step hq)
   have HK3' := Lib.hid (HK3.out.step hq)
   have HBr' := Lib.hid (HBr.out.trans (hq.mono HBr.out.size))
   clear hq kr kl c1 c2
   try go_wp2_with fail
   go_meet
   exact ⟨rfl, rfl, HK1', HK3', HBr'⟩
 case rest =>
  clear HK1 HK3 HBr kr kl HST HO
  obtain ⟨rfl, rfl, HK1, HK3, HBr⟩ := hcut
  have kr := HK1.out.cell
  have kl := HK1.out.lt
  go_wp2_with fail
  refine (HAB.out wc).mono ?_
  rintro e w3 ⟨rfl, hb3⟩
  replace HK1 := Lib.hid (HK1.out.step hb3)
  replace HK3 := Lib.hid (HK3.out.step hb3)
  replace HBr := Lib.hid (HBr.out.trans (hb3.mono HBr.out.size))
  clear hb3 kr kl HAB
  have kr := HK1.out.cell
  have kl := HK1.out.lt
  have tr := HK3.out.frz
  have tl := HK3.out.lt
  have tc := HK3.out.cell
  obtain ⟨ab, hab⟩ : ∃ ab, abV x.format sv lt = ab := ⟨_, rfl⟩
  rw [hab] at HTV ⊢
  clear hab
  have hw1 : IntKind.i64.wrap (x.off + sv) = x.off + sv := IntWalk.i64_in _ (by omega)
  go_wp2_with fail
  have HF := Lib.hid (blk3 HK3.out (x := .int .i64 (x.off + sv)) (y := .bool (decide (0 < sv))) (z := .string ab))
  have HBF := Lib.hid (show Below w.heap.size w (((w3.setCell ⟨b0 + 1 + 1, 0, none⟩ (.int .i64 (x.off + sv))).setCell ⟨b0 + 1 + 1, 1, none⟩ (.bool (decide (0 < sv)))).setCell ⟨b0 + 1 + 1, 2, none⟩ (.string ab)) from below3 (by rw [Hb0.out]; exact HB.out.trans (HBr.out.mono (by have := HB.out.size; have := Hb0.out; omega))) (by have := Hb0.out; omega))
  obtain ⟨U, hU⟩ : ∃ U, (((w3.setCell ⟨b0 + 1 + 1, 0, none⟩ (.int .i64 (x.off + sv))).setCell ⟨b0 + 1 + 1, 1, none⟩ (.bool (decide (0 < sv)))).setCell ⟨b0 + 1 + 1, 2, none⟩ (.string ab)) = U := ⟨_, rfl⟩
  rw [hU] at HF HBF ⊢
  have hf := HF.out.cell
  exact bodyPost_ret (v := .agg #[.int .i64 (x.off + sv), .bool (decide (0 < sv)), .string ab]) (by simp [results, Tryz.results48, go_sem, hf]) rfl ⟨by rw [HTV.out], HBF.out⟩
end Go.Proofs.YthppifcggmdmoaaGreatDoor
namespace Go.Proofs.YthppifcggmdmoaaGreatDoor
open Go.RowKit
set_option linter.unusedVariables false
set_option linter.unusedSimpArgs false
attribute [local go_sem ↓] Go.wp_at_zero Go.wp_at_succ
abbrev TrdZ := ErT × Option Addr × Nat × List TuT
def trC (z : TrdZ) : List Value := (trdA z.1 z.2.1 z.2.2.2.length z.2.2.1 (fstL z.2.2.2)).toList
def TrdAt (w : World) (base : Nat) (z : TrdZ) : Prop := w.ownsRow base 149 3 (.slice z.2.1 z.2.2.2.length z.2.2.1) z.2.2.2.length (z.2.2.2.map tuCells).flatten
def TrdsAt (w : World) (base : Nat) (Z : List TrdZ) : Prop := ∀ z ∈ Z, TrdAt w base z
theorem TrdsAt.step {w w' : World} {base : Nat} {Z : List TrdZ} (h : TrdsAt w base Z) (hb : Below w.heap.size w w') : TrdsAt w' base Z := fun z hz => own_step (h z hz) hb
theorem TrdsAt.grown {w w' : World} {base b2 n : Nat} {v : Value} {xs : List Value} {Z : List TrdZ} (h : TrdsAt w base Z) (ho : w.ownsRow b2 107 7 v n xs) (hg : w.grownBy w' v.ownBlock) : TrdsAt w' base Z :=
 fun z hz => World.ownsRow.kept (h z hz) hg (own_ne (h z hz) ho (by decide))
theorem tr_len7 (Z : List TrdZ) : ∀ xs ∈ Z.map trC, xs.length = 7 := by intro xs hx; obtain ⟨t, _, rfl⟩ := List.mem_map.1 hx; rfl
theorem info_Turned : (Tryz.prog.info? 107).map (fun i => (i.zero, i.size, i.bytes)) = some (some (.agg #[.int .i64 0, .string ⟨#[]⟩, .int .i64 0, .string ⟨#[]⟩, .int .i64 0, .slice none 0 0, .string ⟨#[]⟩]), 7, 96) := by kernel_rfl
theorem own_tu {w : World} {base : Nat} {v : Value} {l : List TuT} (h : w.ownsRow base 149 3 v l.length (l.map tuCells).flatten) : ∃ A cap, v = .slice A l.length cap ∧ l.length ≤ cap ∧ cap ≤ maxLen ∧ SlAt w w.heap.size 3 A (l.map tuCells) := by
 obtain ⟨A, cap, e, h1, h2, h3⟩ := own_at (xss := l.map tuCells) (by simpa using h) (tu_len3 l)
 rw [List.length_map] at e h1
 exact ⟨A, cap, e, h1, h2, h3⟩
def ersE (rs : List RuT) (es : List ErT) : Int := firE (fun k => trnE rs es[k]!) es.length
def ErsPost (rs : List RuT) (es : List ErT) (w : World) (e : Ending) (w' : World) : Prop :=
 ∃ (A : Option Addr) (c : Nat) (Z : List TrdZ), e = .returned (.tuple #[.slice A Z.length c, .int .i64 (ersE rs es)]) ∧ Z.map (fun z => (z.1, z.2.2.2)) = (if ersE rs es = 0 then es.map fun x => (x, trnL rs x) else []) ∧
  SlAt w' w'.heap.size 7 A (Z.map trC) ∧ Z.length ≤ c ∧ c ≤ maxLen ∧ (∀ z ∈ Z, SlAt w' w'.heap.size 3 z.2.1 (z.2.2.2.map tuCells) ∧ z.2.2.2.length ≤ z.2.2.1 ∧ z.2.2.1 ≤ maxLen) ∧ Below w.heap.size w w'
theorem ers_bad {rs : List RuT} {es : List ErT} {E : Int} {w w' : World} (h : ersE rs es = E) (h0 : E ≠ 0) (hb : Below w.heap.size w w') : ErsPost rs es w (.returned (.tuple #[.slice none 0 0, .int .i64 E])) w' := by
 refine ⟨none, 0, [], by rw [h]; rfl, by rw [h, if_neg h0]; rfl, SlAt.none_ _ _ _ _, Nat.le_refl _, by unfold maxLen; omega, by simp, hb⟩
theorem fstL_ix (l : List TuT) : (idxOfF zS l 0 = -1 ∧ fstL l = dASH) ∨ ∃ k, ∃ h : k < l.length, idxOfF zS l 0 = (k : Nat) ∧ fstL l = l[k].2.2 := by
 by_cases hx : ∃ k, ∃ h : k < l.length, zS l[k] = true
 ·have ind : ∀ n, (∃ k, ∃ h : k < l.length, k < n ∧ zS l[k] = true) → ∃ k, ∃ h : k < l.length, zS l[k] = true ∧ ∀ j (hj : j < l.length), j < k → zS l[j] = false := by
   intro n
   induction n with
   | zero => rintro ⟨k, _, h, _⟩; omega
   | succ n ih =>
    rintro ⟨k, hk, hkn, h1⟩
    by_cases h2 : ∃ k, ∃ h : k < l.length, k < n ∧ zS l[k] = true
    ·exact ih h2
    ·have hkn' : k = n := by
      by_cases h : k < n
      ·exact absurd ⟨k, hk, h, h1⟩ h2
      ·omega
     refine ⟨k, hk, h1, fun j hj hjk => ?_⟩
     cases hz : zS l[j] with
     | false => rfl
     | true => exact absurd ⟨j, hj, by omega, hz⟩ h2
  obtain ⟨k, hk, h⟩ := hx
  obtain ⟨k, hk, h1, h2⟩ := ind (k + 1) ⟨k, hk, by omega, h⟩
  have := idxOfF_at hk 0 h2 h1
  rw [Nat.zero_add] at this
  exact Or.inr ⟨k, hk, this, fstL_at hk h2 h1⟩
 ·have hn : ∀ j (hj : j < l.length), zS l[j] = false := by
   intro j hj
   cases hz : zS l[j] with
   | false => rfl
   | true => exact absurd ⟨j, hj, hz⟩ hx
  exact Or.inl ⟨idxOfF_none 0 hn, fstL_none hn⟩
structure ErB (w0 wx : World) (B g : Nat) (out : Value) (n : Nat) (xs : List Value) (Z : List TrdZ) (bk : Array Value) : Prop where
 T : TrdsAt wx B Z
 O : wx.ownsRow B 107 7 out n xs
 N : ∀ k, out.ownBlock = some k → k ≠ g
 K : Blk wx B 26 bk
 L : Below B w0 wx
 G : B ≤ g
theorem ErB.step {w0 wx wy : World} {B g n : Nat} {out : Value} {xs : List Value} {Z : List TrdZ} {bk : Array Value} (h : ErB w0 wx B g out n xs Z bk) (hb : Below wx.heap.size wx wy) : ErB w0 wy B g out n xs Z bk :=
 ⟨h.T.step hb, own_step h.O hb, h.N, h.K.step hb, h.L.trans (hb.mono (Nat.le_of_lt h.K.lt)), h.G⟩
theorem grown_setG (w : World) (g i : Nat) (v : Value) : w.grownBy (w.setCell ⟨g, i, none⟩ v) (some g) :=
 ⟨rfl, rfl, rfl, by simp, fun k _ hk => Below.heap_setCell _ _ _ _ (fun e => hk (by rw [e]))⟩
theorem TrdAt.set {w : World} {base g i : Nat} {z : TrdZ} {cs : Array Value} {v : Value} (h : TrdAt w base z) (hg : Blk w g 107 cs) : TrdAt (w.setCell ⟨g, i, none⟩ v) base z :=
 World.ownsRow.kept h (grown_setG w g i v) (Or.inr (Blk.own_ne hg h (by decide)))
theorem ErB.set {w0 wx : World} {B g n i : Nat} {out : Value} {xs : List Value} {Z : List TrdZ} {bk cs : Array Value} {v : Value} (h : ErB w0 wx B g out n xs Z bk) (hg : Blk wx g 107 cs) : ErB w0 (wx.setCell ⟨g, i, none⟩ v) B g out n xs Z bk :=
 ⟨fun z hz => (h.T z hz).set hg, World.ownsRow.kept h.O (grown_setG wx g i v) (Or.inr (fun e => h.N g e rfl)), h.N, h.K.far (a := ⟨g, i, none⟩) (Blk.ne h.K hg (by decide)) v, Below.setCell h.L (p := ⟨g, i, none⟩) h.G v, h.G⟩
set_option maxRecDepth 100000 in
set_option maxHeartbeats 8000000 in
theorem s_Eras (AR AZ AL AE : Option Addr) (cR nZ cZ nL cL cE : Nat) (rs : List RuT) (nz : ByteArray) (es : List ErT) (w : World) (hA : SlAt w w.heap.size 11 AR (rs.map ruC)) (h1 : rs.length ≤ cR) (m1 : cR ≤ maxLen) (h40 : rs.length ≤ 40) (hb : ∀ r ∈ rs, RuB r)
  (hE : SlAt w w.heap.size 5 AE (es.map erC)) (h2 : es.length ≤ cE) (m2 : cE ≤ maxLen) (h700 : es.length ≤ 700) (hO : ∀ x ∈ es, -100000 ≤ x.off ∧ x.off ≤ 100000) :
  Calls Tryz.prog 45 #[.agg #[.slice AR rs.length cR, .slice AZ nZ cZ, .slice AL nL cL], .agg #[.string nz, .slice AE es.length cE]] w (ErsPost rs es w) := by
 obtain ⟨i0, hi0, hz0, hz1, hz2⟩ := info_parts info_Turned
 have hb1 := (Below.refl w.heap.size w).alloc (Nat.le_refl _) (.cells #[.slice AR rs.length cR, .slice AZ nZ cZ, .slice AL nL cL] 26)
 have hb2 := hb1.alloc (by rw [size_alloc]; omega) (.cells #[.string nz, .slice AE es.length cE] 75)
 have k1 := (Blk.new w #[.slice AR rs.length cR, .slice AZ nZ cZ, .slice AL nL cL] 26).alloc (.cells #[.string nz, .slice AE es.length cE] 75)
 have k2 := Blk.new (w.alloc (.cells #[.slice AR rs.length cR, .slice AZ nZ cZ, .slice AL nL cL] 26)) #[.string nz, .slice AE es.length cE] 75
 rw [size_alloc] at k2
 have HMk := Lib.hid (fun (nm : ByteArray) (off : Int) (V : World) (hbV : Below w.heap.size w V) (o1 : -100000 ≤ off) (o2 : off ≤ 100000) => t_Make AR cR rs.length rs nm off V rfl ((hA.below hbV).more hbV.size) h1 m1 h40 hb o1 o2)
 have HEr := Lib.hid (fun (V : World) (hbV : Below w.heap.size w V) => hE.below hbV)
 have HO := Lib.hid hO
 obtain ⟨W, hW⟩ : ∃ W, (w.alloc (.cells #[.slice AR rs.length cR, .slice AZ nZ cZ, .slice AL nL cL] 26)).alloc (.cells #[.string nz, .slice AE es.length cE] 75) = W := ⟨_, rfl⟩
 rw [hW] at hb2 k1 k2
 obtain ⟨N, hN⟩ : ∃ N, es.length = N := ⟨_, rfl⟩
 obtain ⟨R, hR⟩ : ∃ R, rs.length = R := ⟨_, rfl⟩
 rw [hN] at h2 h700 k2 hW ⊢
 rw [hR] at HMk k1 hW ⊢
 have HN := Lib.hid hN
 unfold maxLen at m2
 have HB := Lib.hid hb2
 have HK1 := Lib.hid k1
 have HK2 := Lib.hid k2
 have HW := Lib.hid hW
 clear hb1 hb2 k1 k2 hA h1 m1 h40 hb hE hO hN hR hW
 go_enter Tryz.func45, Tryz.ntmps45
 go_upto_region 1 with fail
 rw [HW.out]
 clear HW
 obtain ⟨B, hBe⟩ : ∃ B, w.heap.size = B := ⟨_, rfl⟩
 have HBe := Lib.hid hBe
 rw [hBe] at HB HK1 HK2 HEr ⊢
 clear hBe
 have kr := HK2.out.cell
 have kl := HK2.out.lt
 go_wp2_with fail
 clear kr kl
 go_loopw [6, 16] (fun v i wr => ∃ (k : Nat) (Z : List TrdZ), k ≤ N ∧ i = .int .i64 k ∧ Z.length = k ∧ Hid (Z.map (fun z => (z.1, z.2.2.2)) = (es.take k).map fun x => (x, trnL rs x)) ∧ Hid (∀ j, j < k → trnE rs es[j]! = 0) ∧ Hid (wr.ownsRow B 107 7 v (Z.map trC).length (Z.map trC).flatten) ∧ Hid (TrdsAt wr B Z) ∧ Hid (Blk wr B 26 #[.slice AR R cR, .slice AZ nZ cZ, .slice AL nL cL]) ∧ Hid (Below B w wr)) (fun _ i _ => N - (intOf i).toNat)
 case atStart => exact ⟨0, [], Nat.zero_le _, rfl, rfl, Lib.hid rfl, Lib.hid (fun j h => absurd h (by omega)), Lib.hid (World.ownsRow_nil _ _ _ _), Lib.hid (by intro z hz; cases hz), HK1, HB⟩
 case round =>
  clear HK1 HK2 HB
  obtain ⟨k, Z, hk, rfl, hZk, HZ, HD, HOw, HT, HK1, HB⟩ := hrel
  have hi1 : (0 : Int) ≤ (k : Int) := by omega
  by_cases hlt : k < N
  ·have hi2 : (k : Int) < (N : Int) := by omega
   have hke : k < es.length := by rw [HN.out]; exact hlt
   obtain ⟨b, o, rfl, hbb, c0, c1, c2, c3, c4⟩ := er_at (HEr.out _ HB.out) hke
   have hzB : B ≤ wr.heap.size := by have := HB.out.size; have := HBe.out; omega
   have hbw : b < wr.heap.size := by omega
   have hoff := HO.out _ (List.getElem_mem hke)
   have hbang := get_bang hke
   have HTk := Lib.hid (show (es.take (k + 1)).map (fun x => (x, trnL rs x)) = (es.take k).map (fun x => (x, trnL rs x)) ++ [(es[k], trnL rs es[k])] by rw [List.take_succ_eq_append_getElem hke, List.map_append]; rfl)
   have HEb := Lib.hid (show trnE rs es[k] ≠ 0 → ersE rs es = trnE rs es[k] from fun h => by
    have := firE_at (f := fun k => trnE rs es[k]!) (k := k) (fun j hj => HD.out j hj) (by simp only [hbang]; exact h) (n := es.length) hke
    unfold ersE; rw [this]; simp only [hbang])
   have HD2 := Lib.hid (show trnE rs es[k] = 0 → ∀ j, j < k + 1 → trnE rs es[j]! = 0 from fun h j hj => by
    by_cases e : j = k
    ·rw [e, hbang]; exact h
    ·exact HD.out j (by omega))
   obtain ⟨x, hx⟩ : ∃ x, es[k] = x := ⟨_, rfl⟩
   rw [hx] at c0 c1 c2 c3 c4 hoff HTk HEb HD2
   clear hx hbang HD
   have HL := Lib.hid (World.ownsRow.lt HOw.out)
   have hV1 := (Below.refl wr.heap.size wr).alloc (Nat.le_refl _) (.cells #[.int .i64 x.off, .string x.rules, .int .i64 x.save, .string x.format, .int .i64 x.until_] 80)
   have hV2 := hV1.alloc (by rw [size_alloc]; omega) (.cells (trdA x none 0 0 dASH) 107)
   have k8 := (Blk.new wr #[.int .i64 x.off, .string x.rules, .int .i64 x.save, .string x.format, .int .i64 x.until_] 80).alloc (.cells (trdA x none 0 0 dASH) 107)
   have k9 := Blk.new (wr.alloc (.cells #[.int .i64 x.off, .string x.rules, .int .i64 x.save, .string x.format, .int .i64 x.until_] 80)) (trdA x none 0 0 dASH) 107
   rw [size_alloc] at k9
   have HR := Lib.hid (ErB.mk (g := wr.heap.size + 1) (HT.out.step hV2) (own_step HOw.out hV2) (fun k hk e => by have := (HL.out k hk).2; omega) (HK1.out.step hV2) (HB.out.trans (hV2.mono hzB)) (by omega))
   have H8 := Lib.hid k8
   have H9 := Lib.hid k9
   clear hV1 hV2 k8 k9 HL HT HOw HK1 HB
   go_upto_region 6 with fail
   obtain ⟨V, hV⟩ : ∃ V, (wr.alloc (.cells #[.int .i64 x.off, .string x.rules, .int .i64 x.save, .string x.format, .int .i64 x.until_] 80)).alloc (.cells (trdA x none 0 0 dASH) 107) = V := ⟨_, rfl⟩
   obtain ⟨g, hg⟩ : ∃ g, wr.heap.size = g := ⟨_, rfl⟩
   rw [hV] at HR H8 H9
   rw [show (wr.alloc (.cells #[.int .i64 x.off, .string x.rules, .int .i64 x.save, .string x.format, .int .i64 x.until_] 80)).alloc (.cells #[.int .i64 x.off, .string x.rules, .int .i64 x.save, .string x.format, .int .i64 x.until_, .slice none 0 0, .string ⟨#[45]⟩] 107) = V from hV]
   rw [hg] at HR H8 H9 hbw hzB ⊢
   clear hV hg c0 c1 c2 c3 c4
   have HXZ := Lib.hid hZk
   obtain ⟨Q, hQ⟩ : ∃ Q, (Z.map trC).flatten = Q := ⟨_, rfl⟩
   have hQl : (Z.map trC).length = k := by rw [List.length_map, hZk]
   rw [hQ, hQl] at HR
   have HQ := Lib.hid hQ
   clear hQ hQl hZk
   have k8 := H8.out.cell
   have l8 := H8.out.lt
   go_upto_if 24 with fail
   go_cut [] from 17 to 54 (fun wx => ∃ (A : Option Addr) (cap : Nat), Hid (trnE rs x = 0) ∧ Hid (Blk wx (g + 1) 107 (trdA x A (trnL rs x).length cap (fstL (trnL rs x)))) ∧ Hid (TrdAt wx B (x, A, cap, trnL rs x)) ∧ Hid (ErB w wx B (g + 1) u6 k Q Z #[.slice AR R cR, .slice AZ nZ cZ, .slice AL nL cL]))
   case first =>
    have hm := mt_eq x.rules
    have hm2 := mt_em x.rules
    have hm3 := mt_ne x.rules
    cases hE : sEq x.rules eMT with
    | true =>
     rw [hE] at hm2
     simp only [hm2, Bool.not_true]
     have HX := Lib.hid (trn_no (rs := rs) hE)
     clear hE hm hm2 hm3
     go_wp2_with fail
     go_meet
     exact ⟨none, 0, Lib.hid HX.out.1, Lib.hid (by rw [HX.out.2]; exact H9.out), Lib.hid (by rw [HX.out.2]; exact World.ownsRow_nil _ _ _ _), HR⟩
    | false =>
     rw [hE] at hm2
     simp only [hm2, Bool.not_false]
     have HX := Lib.hid (trn_yes (rs := rs) hE)
     clear hm hm2 hm3
     have kb := HR.out.K.cell
     have kbl := HR.out.K.lt
     have hBw : Below w.heap.size w V := by rw [HBe.out]; exact HR.out.L
     have HC := Lib.hid (HMk.out x.rules x.off V hBw hoff.1 hoff.2)
     clear hE hBw
     go_wp2_with fail
     refine HC.out.mono ?_
     rintro e w3 ⟨v, rfl, hv, hb3⟩
     obtain ⟨E, hE⟩ : ∃ E, turnE rs x.rules x.off = E := ⟨_, rfl⟩
     obtain ⟨L, hL⟩ : ∃ L, turnL rs x.rules x.off = L := ⟨_, rfl⟩
     rw [hE, hL] at HX
     rw [hE]
     rw [hL] at hv
     obtain ⟨A, ca, rfl, a1, a2, _⟩ := own_tu hv
     have HV := Lib.hid (show TrdAt w3 B (x, A, ca, L) from World.ownsRow.mono hv (by have := HR.out.K.lt; omega))
     replace HR := Lib.hid (HR.out.step hb3)
     replace H8 := Lib.hid (H8.out.step hb3)
     replace H9 := Lib.hid (H9.out.step hb3)
     clear hE hL hv hb3 kb kbl k8 l8 HC
     by_cases h0 : E = 0
     ·subst h0
      have z9 := H9.out.frz
      have l9 := H9.out.lt
      have k9 := H9.out.cell
      have HV2 := Lib.hid (TrdAt.set (i := 5) (v := .slice A L.length ca) HV.out H9.out)
      have HR2 := Lib.hid (ErB.set (i := 5) (v := .slice A L.length ca) HR.out H9.out)
      have H92 := Lib.hid (show Blk (w3.setCell ⟨g + 1, 5, none⟩ (.slice A L.length ca)) (g + 1) 107 (trdA x A L.length ca dASH) from H9.out.set 5 _)
      clear HV HR H9 H8
      go_upto_region 11 with fail
      clear z9 l9 k9
      obtain ⟨W3, hW3⟩ : ∃ W3, w3.setCell ⟨g + 1, 5, none⟩ (.slice A L.length ca) = W3 := ⟨_, rfl⟩
      rw [hW3] at HV2 HR2 H92 ⊢
      clear hW3
      obtain ⟨A', ca', e', a1', a2', hA'⟩ := own_tu HV2.out
      simp only [Value.slice.injEq, true_and] at e'
      obtain ⟨rfl, rfl⟩ := e'
      have HI := Lib.hid (s_ixTu A ca L W3 hA' a1 a2)
      clear hA' a1' a2'
      go_wp2_with fail
      refine HI.out.mono ?_
      rintro e w4 ⟨rfl, hb4⟩
      replace HR2 := Lib.hid (HR2.out.step hb4)
      replace H92 := Lib.hid (H92.out.step hb4)
      replace HV2 := Lib.hid (show TrdAt w4 B (x, A, ca, L) from own_step HV2.out hb4)
      clear hb4 HI
      rcases fstL_ix L with ⟨e1, e2⟩ | ⟨j, hj, e1, e2⟩
      ·rw [e1]
       have HE2 := Lib.hid e2
       clear e1 e2
       go_wp2_with fail
       go_meet
       exact ⟨A, ca, Lib.hid (by rw [HX.out.1]), Lib.hid (by rw [HX.out.2, HE2.out]; exact H92.out), Lib.hid (by rw [HX.out.2]; exact HV2.out), HR2⟩
      ·rw [e1]
       obtain ⟨A2, c2, e3, _, _, hA2⟩ := own_tu HV2.out
       simp only [Value.slice.injEq, true_and] at e3
       obtain ⟨rfl, rfl⟩ := e3
       obtain ⟨b5, o5, rfl, hb5, d0, d1, d2⟩ := tu_at hA2 hj
       have hj1 : (0 : Int) ≤ (j : Int) := by omega
       have hj2 : (j : Int) < (L.length : Int) := by omega
       obtain ⟨fl, hfl⟩ : ∃ fl, L[j].2.2 = fl := ⟨_, rfl⟩
       rw [hfl] at d2 e2
       have z9 := H92.out.frz
       have l9 := H92.out.lt
       have k9 := H92.out.cell
       have HE2 := Lib.hid e2
       have HV3 := Lib.hid (TrdAt.set (i := 6) (v := .string fl) HV2.out H92.out)
       have HR3 := Lib.hid (ErB.set (i := 6) (v := .string fl) HR2.out H92.out)
       have H93 := Lib.hid (show Blk (w4.setCell ⟨g + 1, 6, none⟩ (.string fl)) (g + 1) 107 (trdA x (some ⟨b5, o5, none⟩) L.length ca fl) from H92.out.set 6 _)
       clear e1 e2 hfl hA2 HV2 HR2 H92 d0 d1
       go_wp2_with fail
       go_meet
       exact ⟨some ⟨b5, o5, none⟩, ca, Lib.hid (by rw [HX.out.1]), Lib.hid (by rw [HX.out.2, HE2.out]; exact H93.out), Lib.hid (by rw [HX.out.2]; exact HV3.out), HR3⟩
     ·have h2' : (E != 0) = true := by rw [bne_iff_ne]; exact h0
      have HX2 := Lib.hid (HEb.out (by rw [HX.out.1]; exact h0))
      have h0' := Lib.hid h0
      clear h0
      go_wp2_with fail
      go_ret2
      exact ers_bad (by rw [HX2.out, HX.out.1]) h0'.out (by rw [HBe.out]; exact HR.out.L)
   case rest =>
    obtain ⟨A, cap, HE0, H9', HV, HR'⟩ := hcut
    clear H8 H9 HR k8 l8
    have HD3 := Lib.hid (HD2.out HE0.out)
    obtain ⟨L, hL⟩ : ∃ L, trnL rs x = L := ⟨_, rfl⟩
    rw [hL] at H9' HV HTk
    obtain ⟨f, hf⟩ : ∃ f, fstL L = f := ⟨_, rfl⟩
    rw [hf] at H9'
    have HFl := Lib.hid (show trC (x, A, cap, L) = [.int .i64 x.off, .string x.rules, .int .i64 x.save, .string x.format, .int .i64 x.until_, .slice A L.length cap, .string f] by rw [← hf]; rfl)
    have kc := H9'.out.cell
    have kl := H9'.out.lt
    have hzc : B ≤ wc.heap.size := Nat.le_of_lt HR'.out.K.lt
    clear hL hf HD2 HEb
    go_wp2_with (at_builtin; refine wpList_append_lies _ rfl _ _ _ rfl B 107 i0 _ 7 96 Tryz.underlying99 hi0 hz0 hz1 hz2 rfl (by omega) u6 k _ rfl (World.ownsRow.alloc HR'.out.O _) ⟨wc.heap.size, 0, none⟩ 1 1 [.int .i64 x.off, .string x.rules, .int .i64 x.save, .string x.format, .int .i64 x.until_, .slice A L.length cap, .string f] rfl rfl (World.news_of_block (cs := trdA x A L.length cap f) (t := 107) (fr := (0, 0)) (heap_alloc_new wc _)) (by simp [Value.oneCell']) (by omega) (by unfold maxLen; omega) (by omega) (by simp; omega) (wc.heap.size + 1) (by simp) ?_; intro gg cap2 w6 hown1 hgrow hat hlt6)
    have hoa := World.ownsRow.alloc HR'.out.O (.cells (trdA x A L.length cap f) 107)
    have hwa := (Below.refl wc.heap.size wc).alloc (Nat.le_refl _) (.cells (trdA x A L.length cap f) 107)
    have hV6 : TrdAt w6 B (x, A, cap, L) := World.ownsRow.kept (own_step HV.out hwa) hgrow (own_ne (own_step HV.out hwa) hoa (by decide))
    have hT6 : TrdsAt w6 B (Z ++ [(x, A, cap, L)]) := fun z hz => (List.mem_append.1 hz).elim (fun h => (TrdsAt.grown (HR'.out.T.step hwa) hoa hgrow) z h) (fun h => by rw [List.mem_singleton.1 h]; exact hV6)
    have hK6 := (HR'.out.K.step hwa).grown hgrow (Blk.own_ne (HR'.out.K.step hwa) hoa (by decide))
    have hO6 : w6.ownsRow B 107 7 (.slice (some ⟨gg, 0, none⟩) (k + 1) cap2) ((Z ++ [(x, A, cap, L)]).map trC).length (((Z ++ [(x, A, cap, L)]).map trC).flatten) := by
     have e1 : ((Z ++ [(x, A, cap, L)]).map trC).length = k + 1 := by simp [HXZ.out]
     have e2 : ((Z ++ [(x, A, cap, L)]).map trC).flatten = Q ++ [.int .i64 x.off, .string x.rules, .int .i64 x.save, .string x.format, .int .i64 x.until_, .slice A L.length cap, .string f] := by rw [List.map_append, List.flatten_append, HQ.out, List.map_singleton, HFl.out]; simp
     rw [e1, e2]; exact hown1
    exact ⟨⟨k + 1, Z ++ [(x, A, cap, L)], by omega, by go_num, by simp [HXZ.out], Lib.hid (by rw [HTk.out, List.map_append, HZ.out]; rfl), HD3, Lib.hid hO6, Lib.hid hT6, Lib.hid hK6, Lib.hid ((HR'.out.L.alloc hzc _).grown hgrow (by simp; omega) (fun k hk => (World.ownsRow.lt hoa k hk).1))⟩, by simp only [intOf]; omega⟩
  ·obtain rfl : k = N := by omega
   have HX := Lib.hid (show ersE rs es = 0 by unfold ersE; rw [HN.out]; exact firE_zero (fun j hj => HD.out j hj))
   obtain ⟨A, c, rfl, a1, a2, hA⟩ := own_at (xss := Z.map trC) HOw.out (tr_len7 Z)
   rw [List.length_map] at a1 ⊢
   have HA := Lib.hid hA
   have HTT := Lib.hid (fun z hz => own_tu (HT.out z hz))
   clear HOw hA HD HK1 HT
   go_wp2_with fail
   go_ret2
   refine ⟨A, c, Z, by rw [HX.out]; rfl, ?_, HA.out, a1, a2, ?_, by rw [HBe.out]; exact HB.out⟩
   ·rw [if_pos HX.out, HZ.out, List.take_of_length_le (by rw [HN.out]; omega)]
   ·intro z hz
    obtain ⟨A', c', e', b1, b2, b3⟩ := HTT.out z hz
    simp only [Value.slice.injEq, true_and] at e'
    obtain ⟨e1, e2⟩ := e'
    rw [e1, e2]
    exact ⟨b3, b1, b2⟩
end Go.Proofs.YthppifcggmdmoaaGreatDoor
namespace Go.Proofs.YthppifcggmdmoaaGreatDoor
open Go.RowKit
set_option linter.unusedVariables false
set_option linter.unusedSimpArgs false
attribute [local go_sem ↓] Go.wp_at_zero Go.wp_at_succ
def EsOk (rs : List RuT) (es : List ErT) : Prop :=
 0 < es.length ∧ es.length ≤ 700 ∧ ErSorted es ∧ ∀ x ∈ es, (-64800 ≤ x.off ∧ x.off ≤ 64800) ∧ (0 ≤ x.save ∧ x.save ≤ 10800)
theorem esOk_of {rs : List RuT} {zs : List ZoT} {ls : List LkT} (h : bookE rs zs ls = 0) {z : ZoT} (hz : z ∈ zs) : EsOk rs z.eras := by
 obtain ⟨k, hk, rfl⟩ := List.getElem_of_mem hz
 have h1 := zoE_inv ((bookE_inv h).2.2.1 k hk)
 rw [get_bang hk] at h1
 obtain ⟨_, _, h2, h3, h4⟩ := h1
 refine ⟨h2, h3, ersorted_of h4, fun x hx => ?_⟩
 obtain ⟨j, hj, rfl⟩ := List.getElem_of_mem hx
 have h5 := firE_inv h4 j hj
 rw [erE, get_bang hj] at h5
 have h6 : erE1 rs zs[k].eras[j] = 0 := by
  by_cases h6 : erE1 rs zs[k].eras[j] = 0
  ·exact h6
  ·rw [if_neg h6] at h5; exact absurd h5 h6
 rw [erE1] at h6
 split at h6
 ·cases h6
 ·rename_i h7; exact Classical.not_not.1 h7
theorem trn_ok {rs : List RuT} (hb : ∀ r ∈ rs, RuB r) (hr : ∀ r ∈ rs, ruOk r) (x : ErT) (h1 : -100000 ≤ x.off) (h2 : x.off ≤ 100000) : TuOk (trnL rs x) := by
 intro u hu
 unfold trnL at hu
 split at hu
 ·cases hu
 ·obtain ⟨hB, r, hr2, _, e⟩ := turnL_mem hb h1 h2 u hu
  exact ⟨hB.2, by rw [e]; exact (hr r hr2).2.1⟩
theorem sl_sub {w : World} {B n b o k : Nat} {α : Type} {xs : List α} {f : α → List Value} (h : SlAt w B n (some ⟨b, o, none⟩) (xs.map f)) (hk : k < xs.length) : SlAt w B n (some ⟨b, o + k * n, none⟩) ([xs[k]].map f) := by
 obtain ⟨b', o', e, h1, h2⟩ := h (by simp; omega)
 simp only [Option.some.injEq, Addr.mk.injEq, and_true] at e
 obtain ⟨rfl, rfl⟩ := e
 intro _
 refine ⟨b, o + k * n, rfl, h1, fun i hi j hj => ?_⟩
 have hi0 : i = 0 := by simp at hi; exact hi
 subst hi0
 have h3 := h2 k (by simpa using hk) j hj
 have e : (xs.map f).getD k [] = f xs[k] := by simp [List.getD, hk]
 rw [e] at h3
 rw [Nat.zero_mul, Nat.add_zero]
 exact h3
theorem trnE_one (rs : List RuT) (x : ErT) : ersE rs [x] = trnE rs x := by simp [ersE, firE]
def OnePost (rs : List RuT) (x : ErT) (w : World) (e : Ending) (w' : World) : Prop :=
 ∃ (A : Option Addr) (c n : Nat), e = .returned (.tuple #[.slice A n c, .int .i64 (trnE rs x)]) ∧
  (trnE rs x = 0 → n = 1 ∧ ∃ (A' : Option Addr) (c' : Nat), (∃ b o, A = some ⟨b, o, none⟩ ∧ b < w'.heap.size ∧ w'.cell? ⟨b, o, none⟩ = some (.int .i64 x.off) ∧ w'.cell? ⟨b, o + 1, none⟩ = some (.string x.rules) ∧ w'.cell? ⟨b, o + 2, none⟩ = some (.int .i64 x.save) ∧ w'.cell? ⟨b, o + 3, none⟩ = some (.string x.format) ∧ w'.cell? ⟨b, o + 4, none⟩ = some (.int .i64 x.until_) ∧ w'.cell? ⟨b, o + 5, none⟩ = some (.slice A' (trnL rs x).length c') ∧ w'.cell? ⟨b, o + 6, none⟩ = some (.string (fstL (trnL rs x)))) ∧
   SlAt w' w'.heap.size 3 A' ((trnL rs x).map tuCells) ∧ (trnL rs x).length ≤ c' ∧ c' ≤ maxLen) ∧ Below w.heap.size w w'
theorem one_post {rs : List RuT} {x : ErT} {w w' : World} {e : Ending} (h : ErsPost rs [x] w e w') : OnePost rs x w e w' := by
 obtain ⟨A, c, Z, rfl, h1, h2, h3, h4, h5, h6⟩ := h
 rw [trnE_one] at h1 ⊢
 refine ⟨A, c, Z.length, rfl, fun h0 => ?_, h6⟩
 rw [if_pos h0, List.map_singleton] at h1
 have hl : Z.length = 1 := by have := congrArg List.length h1; simpa using this
 obtain ⟨z, rfl⟩ := List.length_eq_one_iff.1 hl
 simp only [List.map_cons, List.map_nil, List.cons.injEq, Prod.mk.injEq, and_true] at h1
 obtain ⟨e1, e2⟩ := h1
 obtain ⟨b, o, hA, hb, hc⟩ := h2 (by simp)
 have hc0 := hc 0 (by simp)
 obtain ⟨h7, h8, h9⟩ := h5 z (by simp)
 have e : ([z].map trC).getD 0 [] = [.int .i64 x.off, .string x.rules, .int .i64 x.save, .string x.format, .int .i64 x.until_, .slice z.2.1 z.2.2.2.length z.2.2.1, .string (fstL z.2.2.2)] := by rw [← e1]; rfl
 rw [e2] at h7 h8 e
 rw [e, Nat.zero_mul, Nat.add_zero] at hc0
 exact ⟨rfl, z.2.1, z.2.2.1, ⟨b, o, hA, hb, hc0 0 (by omega), hc0 1 (by omega), hc0 2 (by omega), hc0 3 (by omega), hc0 4 (by omega), hc0 5 (by omega), hc0 6 (by omega)⟩, h7, h8, h9⟩
def ty0 : Array Value := #[.int .i64 0, .bool false, .string ⟨#[]⟩]
end Go.Proofs.YthppifcggmdmoaaGreatDoor

