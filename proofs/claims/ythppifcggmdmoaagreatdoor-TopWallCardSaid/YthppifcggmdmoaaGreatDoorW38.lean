/- Part 38 of the proof of TopWall: no condition; what its declarations say stands at each. -/
import Derived.Test.YthppifcggmdmoaaGreatDoorW36
import Derived.Test.YthppifcggmdmoaaGreatDoorW37
import Derived.Test.YthppifcggmdmoaaGreatDoorW35
import Derived.Deep.Cut
namespace Go.Proofs.YthppifcggmdmoaaGreatDoor
open Go.RowKit
set_option linter.unusedVariables false
set_option linter.unusedSimpArgs false
def evs (l : List TuT) (lo hi : Int) : List Int := (l.filter fun u => decide (lo ≤ u.1) && decide (u.1 ≤ hi)).map (·.1)
theorem evs_mem {l : List TuT} {lo hi t : Int} (h : t ∈ evs l lo hi) : lo ≤ t ∧ t ≤ hi := by
 obtain ⟨u, hu, rfl⟩ := List.mem_map.1 h
 have := (List.mem_filter.1 hu).2
 simp at this; exact this
theorem evs_empty {l : List TuT} {lo hi : Int} (h : hi < lo) : evs l lo hi = [] := by
 unfold evs
 rw [List.filter_eq_nil_iff.2]
 ·rfl
 ·intro u _; simp; omega
theorem evs_len (l : List TuT) (lo hi : Int) : (evs l lo hi).length ≤ l.length := by
 unfold evs; rw [List.length_map]; exact List.length_filter_le _ _
theorem evs_no {l : List TuT} {a hi : Int} (h : ∀ u ∈ l, u.1 ≠ a) : evs l a hi = evs l (a + 1) hi := by
 unfold evs
 congr 1
 refine List.filter_congr (fun u hu => ?_)
 have := h u hu
 congr 1
 rw [decide_eq_decide]; omega
theorem evs_head : ∀ {l : List TuT} {a hi : Int}, TuSorted l → (∃ u ∈ l, u.1 = a) → a ≤ hi → evs l a hi = a :: evs l (a + 1) hi
 | [], a, hi, _, ⟨u, hu, _⟩, _ => by cases hu
 | v :: l, a, hi, hs, ⟨u, hu, hua⟩, ha => by
  obtain ⟨h1, h2⟩ := List.pairwise_cons.1 hs
  rcases List.mem_cons.1 hu with rfl | hu
  ·have e1 : ∀ w ∈ l, w.1 ≠ a := fun w hw => by have := h1 w hw; omega
   have e2 := evs_no (hi := hi) e1
   unfold evs at e2 ⊢
   rw [List.filter_cons_of_pos (by simp; omega), List.filter_cons_of_neg (by simp; omega), List.map_cons, e2, hua]
  ·have hv : v.1 < a := by have := h1 u hu; omega
   have ih := evs_head (hi := hi) h2 ⟨u, hu, hua⟩ ha
   unfold evs at ih ⊢
   rw [List.filter_cons_of_neg (by simp; omega), List.filter_cons_of_neg (by simp; omega)]
   exact ih
def nF (s : NSt) (l : List (Int × Ty)) : NSt := l.foldl (fun s c => nStep s c.1 c.2) s
theorem nBuild_nF (first : Ty) (l : List (Int × Ty)) : nBuild first l = nF (nBegin first) l := rfl
theorem nF_app (s : NSt) (a b : List (Int × Ty)) : nF s (a ++ b) = nF (nF s a) b := by unfold nF; rw [List.foldl_append]
theorem nF_snoc (s : NSt) (a : List (Int × Ty)) (c : Int × Ty) : nF s (a ++ [c]) = nStep (nF s a) c.1 c.2 := by rw [nF_app]; rfl
theorem eraI_in {es : List ErT} (hs : ErSorted es) {t : Int} {k : Nat} (hk : k < es.length) (h1 : k = 0 ∨ es[k - 1]!.until_ ≤ t) (h2 : k + 1 = es.length ∨ t < es[k]!.until_) : eraI es t = k := by
 obtain ⟨a, b, c⟩ := eraI_spec hs t
 rcases Nat.lt_trichotomy (eraI es t) k with h | h | h
 ·exfalso
  have hk0 : k ≠ 0 := by omega
  rcases h1 with h1 | h1
  ·exact hk0 h1
  ·rw [get_bang (show k - 1 < es.length by omega)] at h1
   have := c (k - 1) (by omega) (by omega)
   omega
 ·exact h
 ·exfalso
  rcases h2 with h2 | h2
  ·omega
  ·rw [get_bang hk] at h2
   have := b k hk h
   omega
def tT (rs : List RuT) (es : List ErT) (k : Nat) (t : Int) : Ty := typeV es[k]! (trnL rs es[k]!) t
def fT (rs : List RuT) (es : List ErT) (t : Int) : Ty := tT rs es (eraI es t) t
def hiK (es : List ErT) (T : Int) (k : Nat) : Int := if k + 1 < es.length then min (T - 1) (es[k]!.until_ - 1) else T - 1
def loK (es : List ErT) (F : Int) (k : Nat) : Int := if k = 0 then F + 1 else max (F + 1) es[k - 1]!.until_
def refK (rs : List RuT) (es : List ErT) (F T : Int) (k : Nat) : List Int := if hiK es T k < loK es F k then [] else loK es F k :: evs (trnL rs es[k]!) (loK es F k + 1) (hiK es T k)
def refL (rs : List RuT) (es : List ErT) (F T : Int) (n : Nat) : List Int := ((List.range n).map (refK rs es F T)).flatten
theorem refL_succ (rs : List RuT) (es : List ErT) (F T : Int) (n : Nat) : refL rs es F T (n + 1) = refL rs es F T n ++ refK rs es F T n := by unfold refL; rw [List.range_succ, List.map_append, List.flatten_append]; simp
def opK (rs : List RuT) (es : List ErT) (k0 k : Nat) : List (Int × Ty) := if k = k0 then [] else [(es[k - 1]!.until_, tT rs es k es[k - 1]!.until_)]
def frK (es : List ErT) (F : Int) (k0 k : Nat) : Int := if k = k0 then F + 1 else es[k - 1]!.until_ + 1
def tnK (rs : List RuT) (es : List ErT) (F T : Int) (k0 k : Nat) : List (Int × Ty) := (evs (trnL rs es[k]!) (frK es F k0 k) (hiK es T k)).map fun t => (t, tT rs es k t)
def prgK (rs : List RuT) (es : List ErT) (F T : Int) (k0 k : Nat) : List (Int × Ty) := opK rs es k0 k ++ tnK rs es F T k0 k
def prgL (rs : List RuT) (es : List ErT) (F T : Int) (k0 m : Nat) : List (Int × Ty) := ((List.range m).map fun j => prgK rs es F T k0 (k0 + j)).flatten
theorem prgL_succ (rs : List RuT) (es : List ErT) (F T : Int) (k0 m : Nat) : prgL rs es F T k0 (m + 1) = prgL rs es F T k0 m ++ prgK rs es F T k0 (k0 + m) := by unfold prgL; rw [List.range_succ, List.map_append, List.flatten_append]; simp
theorem prgK_len (rs : List RuT) (es : List ErT) (F T : Int) (k0 k : Nat) : (prgK rs es F T k0 k).length ≤ 1501 := by
 unfold prgK opK tnK
 rw [List.length_append, List.length_map]
 have h1 := evs_len (trnL rs es[k]!) (frK es F k0 k) (hiK es T k)
 have h2 := trnL_len rs es[k]!
 split
 ·simp only [List.length_nil]; omega
 ·simp only [List.length_cons, List.length_nil]; omega
theorem prgL_len (rs : List RuT) (es : List ErT) (F T : Int) (k0 : Nat) : ∀ m, (prgL rs es F T k0 m).length ≤ 1501 * m
 | 0 => by simp [prgL]
 | m + 1 => by
  rw [prgL_succ, List.length_append]
  have h1 := prgL_len rs es F T k0 m
  have h2 := prgK_len rs es F T k0 (k0 + m)
  omega
theorem until_up {es : List ErT} (hs : ErSorted es) {i j : Nat} (hij : i < j) (hj : j + 1 < es.length) : es[i]!.until_ < es[j]!.until_ := by
 have := (List.pairwise_iff_getElem.1 hs) i j (by rw [List.length_dropLast]; omega) (by rw [List.length_dropLast]; omega) hij
 rw [List.getElem_dropLast, List.getElem_dropLast] at this
 rw [get_bang (by omega), get_bang (by omega)]
 exact this
section
variable {rs : List RuT} {es : List ErT} {F T : Int}
theorem refK_ahead (hs : ErSorted es) {k : Nat} (hk : k < eraI es F) : refK rs es F T k = [] := by
 obtain ⟨a, b, c⟩ := eraI_spec hs F
 have h1 := b k (by omega) hk
 unfold refK
 rw [if_pos]
 unfold hiK loK
 rw [if_pos (by omega), get_bang (by omega)]
 split <;> omega
theorem refK_behind (hs : ErSorted es) {k : Nat} (hk : 0 < k) (hkl : k < es.length) (h : T ≤ es[k - 1]!.until_) : refK rs es F T k = [] := by
 have e : loK es F k = max (F + 1) es[k - 1]!.until_ := by unfold loK; rw [if_neg (by omega)]
 unfold refK
 rw [if_pos]
 rw [e]
 unfold hiK
 split <;> omega
theorem refK_mid (hs : ErSorted es) {k : Nat} (hk : eraI es F < k) (hkl : k < es.length) (h : es[k - 1]!.until_ < T) : (refK rs es F T k).map (fun t => (t, fT rs es t)) = prgK rs es F T (eraI es F) k := by
 obtain ⟨a, b, c⟩ := eraI_spec hs F
 have hF : F < es[k - 1]!.until_ := by rw [get_bang (by omega)]; exact c (k - 1) (by omega) (by omega)
 have hlo : loK es F k = es[k - 1]!.until_ := by unfold loK; rw [if_neg (by omega)]; omega
 have hhi : es[k - 1]!.until_ ≤ hiK es T k := by
  unfold hiK
  split
  ·have := until_up hs (i := k - 1) (j := k) (by omega) (by omega); omega
  ·omega
 have hin : ∀ t, es[k - 1]!.until_ ≤ t → t ≤ hiK es T k → fT rs es t = tT rs es k t := by
  intro t h1 h2
  unfold fT
  rw [eraI_in hs hkl (Or.inr h1) (by
   unfold hiK at h2
   split at h2
   ·exact Or.inr (by omega)
   ·exact Or.inl (by omega))]
 unfold refK prgK opK tnK frK
 rw [hlo, if_neg (by omega), if_neg (by omega), if_neg (by omega), List.map_cons, hin _ (Int.le_refl _) hhi]
 show _ :: _ = _ :: _
 congr 1
 refine List.map_congr_left (fun t ht => ?_)
 obtain ⟨h1, h2⟩ := evs_mem ht
 rw [hin t (by omega) h2]
theorem tuCount_no {l : List TuT} (hs : TuSorted l) (h : ∀ u ∈ l, u.1 ≠ F + 1) : tuCount l (F + 1) = tuCount l F := by
 obtain ⟨a, b, c⟩ := tuCount_spec hs F
 obtain ⟨a', b', c'⟩ := tuCount_spec hs (F + 1)
 rcases Nat.lt_trichotomy (tuCount l (F + 1)) (tuCount l F) with h1 | h1 | h1
 ·have h2 := b (tuCount l (F + 1)) (by omega) h1
  have h3 := c' (tuCount l (F + 1)) (by omega) (Nat.le_refl _)
  omega
 ·exact h1
 ·have h2 := c (tuCount l F) (by omega) (Nat.le_refl _)
  have h3 := b' (tuCount l F) (by omega) h1
  have h4 := h _ (List.getElem_mem (show tuCount l F < l.length by omega))
  omega
theorem typeV_no {x : ErT} {l : List TuT} (hs : TuSorted l) (h : ∀ u ∈ l, u.1 ≠ F + 1) : typeV x l (F + 1) = typeV x l F := by
 unfold typeV stS
 rw [tuCount_no hs h]
theorem refK_first (hs : ErSorted es) (h0 : 0 < es.length) : nF (nBegin (fT rs es F)) ((refK rs es F T (eraI es F)).map fun t => (t, fT rs es t)) = nF (nBegin (fT rs es F)) (prgK rs es F T (eraI es F) (eraI es F)) := by
 obtain ⟨a, b, c⟩ := eraI_spec hs F
 obtain ⟨k, hk⟩ : ∃ k, eraI es F = k := ⟨_, rfl⟩
 have hfF : fT rs es F = tT rs es k F := by unfold fT; rw [hk]
 rw [hk] at a b c ⊢
 have hkl : k < es.length := by omega
 have hlo : loK es F k = F + 1 := by
  unfold loK
  split
  ·rfl
  ·have := b (k - 1) (by omega) (by omega)
   rw [get_bang (by omega)]; omega
 have hin : ∀ t, F + 1 ≤ t → t ≤ hiK es T k → fT rs es t = tT rs es k t := by
  intro t h1 h2
  unfold fT
  rw [eraI_in hs hkl (by
   by_cases hk0 : k = 0
   ·exact Or.inl hk0
   ·have := b (k - 1) (by omega) (by omega)
    rw [get_bang (by omega)]
    exact Or.inr (by omega)) (by
   unfold hiK at h2
   split at h2
   ·exact Or.inr (by omega)
   ·exact Or.inl (by omega))]
 unfold refK prgK opK tnK frK
 rw [hlo, if_pos rfl, if_pos rfl, List.nil_append]
 split
 ·rename_i h1
  rw [evs_empty h1]
  rfl
 ·rename_i h1
  rw [List.map_cons, hin _ (Int.le_refl _) (by omega)]
  have hmap : (evs (trnL rs es[k]!) (F + 1 + 1) (hiK es T k)).map (fun t => (t, fT rs es t)) = (evs (trnL rs es[k]!) (F + 1 + 1) (hiK es T k)).map fun t => (t, tT rs es k t) := by
   refine List.map_congr_left (fun t ht => ?_)
   obtain ⟨h2, h3⟩ := evs_mem ht
   rw [hin t (by omega) h3]
  rw [hmap]
  by_cases hu : ∃ u ∈ trnL rs es[k]!, u.1 = F + 1
  ·rw [evs_head (trnL_sorted _ _) hu (by omega)]
   rfl
  ·have hn : ∀ u ∈ trnL rs es[k]!, u.1 ≠ F + 1 := fun u h2 h3 => hu ⟨u, h2, h3⟩
   rw [evs_no hn]
   show nF (nStep (nBegin (fT rs es F)) (F + 1) (tT rs es k (F + 1))) _ = _
   rw [nStep_same]
   show tT rs es k (F + 1) = fT rs es F
   rw [hfF]
   exact typeV_no (trnL_sorted _ _) hn
theorem tab_both (hs : ErSorted es) (h0 : 0 < es.length) (m : Nat) (hm : eraI es F + m + 1 ≤ es.length) (h1 : ∀ j, j < m → es[eraI es F + j]!.until_ < T) (h2 : eraI es F + m + 1 = es.length ∨ T ≤ es[eraI es F + m]!.until_) :
  nBuild (fT rs es F) ((refL rs es F T es.length).map fun t => (t, fT rs es t)) = nBuild (fT rs es F) (prgL rs es F T (eraI es F) (m + 1)) := by
 have ha : ∀ n, n ≤ eraI es F → refL rs es F T n = [] := by
  intro n
  induction n with
  | zero => intro _; rfl
  | succ n ih => intro hn; rw [refL_succ, ih (by omega), refK_ahead hs (by omega)]; rfl
 have hb : ∀ j, j ≤ m → nBuild (fT rs es F) ((refL rs es F T (eraI es F + j + 1)).map fun t => (t, fT rs es t)) = nBuild (fT rs es F) (prgL rs es F T (eraI es F) (j + 1)) := by
  intro j
  induction j with
  | zero =>
   intro _
   rw [Nat.add_zero, refL_succ, ha _ (Nat.le_refl _), List.nil_append, prgL_succ, nBuild_nF, nBuild_nF, Nat.add_zero]
   show _ = nF _ ([] ++ _)
   rw [List.nil_append]
   exact refK_first hs h0
  | succ j ih =>
   intro hj
   have ih := ih (by omega)
   rw [show eraI es F + (j + 1) + 1 = (eraI es F + j + 1) + 1 by omega, refL_succ, List.map_append, nBuild_nF, nF_app, ← nBuild_nF, ih, prgL_succ _ _ _ _ _ (j + 1), nBuild_nF _ (prgL _ _ _ _ _ _ ++ _), nF_app, ← nBuild_nF]
   congr 1
   rw [show eraI es F + (j + 1) = eraI es F + j + 1 by omega]
   refine refK_mid hs (by omega) (by omega) ?_
   have := h1 j (by omega)
   rwa [show eraI es F + j + 1 - 1 = eraI es F + j by omega]
 have hc : ∀ n, eraI es F + m + 1 + n ≤ es.length → refL rs es F T (eraI es F + m + 1 + n) = refL rs es F T (eraI es F + m + 1) := by
  intro n
  induction n with
  | zero => intro _; rfl
  | succ n ih =>
   intro hn
   rw [show eraI es F + m + 1 + (n + 1) = (eraI es F + m + 1 + n) + 1 by omega, refL_succ, ih (by omega)]
   have h3 : refK rs es F T (eraI es F + m + 1 + n) = [] := by
    rcases h2 with h2 | h2
    ·omega
    ·refine refK_behind hs (by omega) (by omega) ?_
     rw [show eraI es F + m + 1 + n - 1 = eraI es F + m + n by omega]
     by_cases hn0 : n = 0
     ·subst hn0; exact h2
     ·have := until_up hs (i := eraI es F + m) (j := eraI es F + m + n) (by omega) (by omega)
      omega
   rw [h3, List.append_nil]
 have hd := hc (es.length - (eraI es F + m + 1)) (by omega)
 rw [show eraI es F + m + 1 + (es.length - (eraI es F + m + 1)) = es.length by omega] at hd
 rw [hd]
 exact hb m (Nat.le_refl _)
end
end Go.Proofs.YthppifcggmdmoaaGreatDoor
namespace Go.Proofs.YthppifcggmdmoaaGreatDoor
open Go.RowKit
set_option linter.unusedVariables false
set_option linter.unusedSimpArgs false
attribute [local go_sem ↓] Go.wp_at_zero Go.wp_at_succ
theorem info_int : (Tryz.prog.info? 3).map (fun i => (i.zero, i.size, i.bytes)) = some (some (.int .i64 0), 1, 8) := by kernel_rfl
set_option maxRecDepth 100000 in
theorem t_none (n : Int) (w : World) :
  Calls Tryz.prog 42 #[.int .i64 n] w fun e w' => e = .returned (.tuple #[.agg #[.slice none 0 0, .int .i64 0, .slice none 0 0], .int .i64 n]) ∧ Below w.heap.size w w' := by
 have hb1 := (Below.refl w.heap.size w).alloc (Nat.le_refl _) (.cells #[.slice none 0 0, .int .i64 0, .slice none 0 0] 37)
 have HT := Lib.hid (Blk.new w #[.slice none 0 0, .int .i64 0, .slice none 0 0] 37)
 obtain ⟨W, hW⟩ : ∃ W, w.alloc (.cells #[.slice none 0 0, .int .i64 0, .slice none 0 0] 37) = W := ⟨_, rfl⟩
 rw [hW] at hb1 HT
 have HB := Lib.hid hb1
 clear hb1
 have tr := HT.out.frz
 have tl := HT.out.lt
 have tc := HT.out.cell
 go_enter Tryz.func42, Tryz.ntmps42
 go_wp2_with fail
 have HF := Lib.hid (blk3 HT.out (x := .slice none 0 0) (y := .int .i64 0) (z := .slice none 0 0))
 have HBF := Lib.hid (show Below w.heap.size w (((W.setCell ⟨w.heap.size, 0, none⟩ (.slice none 0 0)).setCell ⟨w.heap.size, 1, none⟩ (.int .i64 0)).setCell ⟨w.heap.size, 2, none⟩ (.slice none 0 0)) from below3 HB.out (Nat.le_refl _))
 obtain ⟨U, hU⟩ : ∃ U, (((W.setCell ⟨w.heap.size, 0, none⟩ (.slice none 0 0)).setCell ⟨w.heap.size, 1, none⟩ (.int .i64 0)).setCell ⟨w.heap.size, 2, none⟩ (.slice none 0 0)) = U := ⟨_, rfl⟩
 rw [hU] at HF HBF ⊢
 have hf := HF.out.cell
 exact bodyPost_ret (v := .tuple #[.agg #[.slice none 0 0, .int .i64 0, .slice none 0 0], .int .i64 n]) (by simp [results, Tryz.results42, go_sem, hf]) rfl ⟨rfl, HBF.out⟩
theorem evs_take {l : List TuT} {lo hi : Int} {k : Nat} (hk : k < l.length) : evs (l.take (k + 1)) lo hi = evs (l.take k) lo hi ++ if lo ≤ l[k].1 ∧ l[k].1 ≤ hi then [l[k].1] else [] := by
 unfold evs
 rw [List.take_succ_eq_append_getElem hk, List.filter_append, List.map_append]
 congr 1
 by_cases h : lo ≤ l[k].1 ∧ l[k].1 ≤ hi
 ·rw [if_pos h, List.filter_cons_of_pos (by simp; exact h)]; rfl
 ·rw [if_neg h, List.filter_cons_of_neg (by simp; omega)]; rfl
set_option maxRecDepth 100000 in
set_option maxHeartbeats 4000000 in
theorem s_Within (x : ErT) (A : Option Addr) (cap : Nat) (l : List TuT) (f : ByteArray) (lo hi : Int) (w : World) (hA : SlAt w w.heap.size 3 A (l.map tuCells)) (hc : l.length ≤ cap) (hm : cap ≤ maxLen) (hn : l.length ≤ 1500) :
  Calls Tryz.prog 49 #[.agg (trdA x A l.length cap f), .int .i64 lo, .int .i64 hi] w fun e w' => ∃ v, e = .returned v ∧ w'.ownsRow w.heap.size 3 1 v ((evs l lo hi).map inCells).length ((evs l lo hi).map inCells).flatten ∧ Below w.heap.size w w' := by
 unfold maxLen at hm
 obtain ⟨i0, hi0, hz0, hz1, hz2⟩ := info_parts info_int
 have hb1 := (Below.refl w.heap.size w).alloc (Nat.le_refl _) (.cells (trdA x A l.length cap f) 107)
 have HK := Lib.hid (Blk.new w (trdA x A l.length cap f) 107)
 have HA := Lib.hid (fun (V : World) (hb : Below w.heap.size w V) => hA.below hb)
 have HB := Lib.hid hb1
 clear hb1 hA
 have kr := HK.out.cell
 have kl := HK.out.lt
 go_enter Tryz.func49, Tryz.ntmps49
 go_wp2_with fail
 clear kr kl
 go_loopw [7, 13] (fun v i wr => ∃ k : Nat, k ≤ l.length ∧ i = .int .i64 k ∧ Hid (wr.ownsRow w.heap.size 3 1 v ((evs (l.take k) lo hi).map inCells).length ((evs (l.take k) lo hi).map inCells).flatten) ∧ Hid (Below w.heap.size w wr)) (fun _ i _ => l.length - (intOf i).toNat)
 case atStart => exact ⟨0, Nat.zero_le _, rfl, Lib.hid (World.ownsRow_nil _ _ _ _), HB⟩
 case round =>
  clear HB HK
  obtain ⟨k, hk, rfl, HO, HB⟩ := hrel
  by_cases hlt : k < l.length
  ·obtain ⟨b, o, rfl, hb, c0, c1, c2⟩ := tu_at (HA.out _ HB.out) hlt
   have hz := HB.out.size
   have hbw : b < wr.heap.size := by omega
   have hi1 : (0 : Int) ≤ (k : Int) := by omega
   have hi2 : (k : Int) < (l.length : Int) := by omega
   have HE := Lib.hid (evs_take (lo := lo) (hi := hi) hlt)
   have hl := evs_len (l.take k) lo hi
   rw [List.length_take] at hl
   obtain ⟨u, hu⟩ : ∃ u, l[k] = u := ⟨_, rfl⟩
   rw [hu] at c0 c1 c2 HE
   obtain ⟨L, hL⟩ : ∃ L, evs (l.take k) lo hi = L := ⟨_, rfl⟩
   rw [hL] at HO HE hl
   clear hu hL
   have hV := (Below.refl wr.heap.size wr).alloc (Nat.le_refl _) (.cells #[.int .i64 u.1, .int .i64 u.2.1, .string u.2.2] 149)
   replace HO := Lib.hid (own_step HO.out hV)
   replace HB := Lib.hid (HB.out.trans (hV.mono hz))
   have HX := Lib.hid (Blk.new wr #[.int .i64 u.1, .int .i64 u.2.1, .string u.2.2] 149)
   clear hV
   by_cases h1 : lo ≤ u.1
   ·by_cases h2 : u.1 ≤ hi
    ·have HE2 := Lib.hid (show evs (l.take (k + 1)) lo hi = L ++ [u.1] by rw [HE.out, if_pos ⟨h1, h2⟩])
     clear HE
     obtain ⟨Q, hQ⟩ : ∃ Q, (L.map inCells).flatten = Q := ⟨_, rfl⟩
     have hLl : (L.map inCells).length = L.length := List.length_map _
     rw [hQ, hLl] at HO
     have HQ := Lib.hid (And.intro hQ hLl)
     clear hQ hLl
     go_upto_region 6 with fail
     obtain ⟨V, hV⟩ : ∃ V, wr.alloc (.cells #[.int .i64 u.1, .int .i64 u.2.1, .string u.2.2] 149) = V := ⟨_, rfl⟩
     obtain ⟨g, hg⟩ : ∃ g, wr.heap.size = g := ⟨_, rfl⟩
     rw [hV] at HO HB HX ⊢
     rw [hg] at HX ⊢
     clear hV hg c0 c1 c2
     have xc := HX.out.cell
     have xl := HX.out.lt
     have hzV : w.heap.size ≤ V.heap.size := HB.out.size
     go_wp2_with (at_builtin; refine wpList_append_lies _ rfl _ _ _ rfl w.heap.size 3 i0 _ 1 8 Tryz.underlying52 hi0 hz0 hz1 hz2 rfl (by omega) u7 L.length _ rfl (World.ownsRow.alloc HO.out _) ⟨V.heap.size, 0, none⟩ 1 1 [.int .i64 u.1] rfl rfl (World.news_of_block (cs := #[.int .i64 u.1]) (t := 3) (fr := (0, 0)) (heap_alloc_new V _)) (by simp [Value.oneCell']) (by omega) (by unfold maxLen; omega) (by omega) (by simp; omega) (V.heap.size + 1) (by simp) ?_; intro gg cap2 w6 hown1 hgrow hat hlt6)
     have hoa := World.ownsRow.alloc HO.out (.cells #[.int .i64 u.1] 3)
     exact ⟨⟨k + 1, by omega, by go_num, Lib.hid (by
      have e1 : ((L ++ [u.1]).map inCells).length = L.length + 1 := by simp
      have e2 : ((L ++ [u.1]).map inCells).flatten = Q ++ [.int .i64 u.1] := by rw [List.map_append, List.flatten_append, HQ.out.1]; rfl
      rw [HE2.out, e1, e2]; exact hown1), Lib.hid ((HB.out.alloc hzV _).grown hgrow (by simp; omega) (fun k hk => (World.ownsRow.lt hoa k hk).1))⟩, by simp only [intOf]; omega⟩
    ·have HE2 := Lib.hid (show evs (l.take (k + 1)) lo hi = L by rw [HE.out, if_neg (fun h => h2 h.2), List.append_nil])
     clear HE HX
     go_wp2_with fail
     exact ⟨⟨k + 1, by omega, by go_num, Lib.hid (by rw [HE2.out]; exact HO.out), HB⟩, by simp only [intOf]; omega⟩
   ·have HE2 := Lib.hid (show evs (l.take (k + 1)) lo hi = L by rw [HE.out, if_neg (fun h => h1 h.1), List.append_nil])
    clear HE HX
    go_wp2_with fail
    exact ⟨⟨k + 1, by omega, by go_num, Lib.hid (by rw [HE2.out]; exact HO.out), HB⟩, by simp only [intOf]; omega⟩
  ·obtain rfl : k = l.length := by omega
   rw [List.take_length] at HO
   go_wp2_with fail
   go_ret
   exact ⟨_, rfl, HO.out, HB.out⟩
end Go.Proofs.YthppifcggmdmoaaGreatDoor
namespace Go.Proofs.YthppifcggmdmoaaGreatDoor
open Go.RowKit
set_option linter.unusedVariables false
set_option linter.unusedSimpArgs false
abbrev tb0 : Array Value := #[.slice none 0 0, .int .i64 0, .slice none 0 0]
structure TmW (w V : World) (B gz : Nat) (bk sp zo : Array Value) (A : Option Addr) (es : List ErT) : Prop where
 K : Blk V B 26 bk
 S : Blk V (B + 1) 47 sp
 T : Blk V (B + 1 + 1) 37 tb0
 Z : Blk V gz 75 zo
 E : SlAt V V.heap.size 5 A (es.map erC)
 L : Below w.heap.size w V
theorem TmW.step {w V V2 : World} {B gz : Nat} {bk sp zo : Array Value} {A : Option Addr} {es : List ErT} (h : TmW w V B gz bk sp zo A es) (hb : Below V.heap.size V V2) : TmW w V2 B gz bk sp zo A es :=
 ⟨h.K.step hb, h.S.step hb, h.T.step hb, h.Z.step hb, (h.E.below hb).more hb.size, h.L.trans (hb.mono h.L.size)⟩
def ErZ (V : World) (A : Option Addr) (Z : List TrdZ) : Prop := SlAt V V.heap.size 7 A (Z.map trC) ∧ ∀ z ∈ Z, SlAt V V.heap.size 3 z.2.1 (z.2.2.2.map tuCells) ∧ z.2.2.2.length ≤ z.2.2.1 ∧ z.2.2.1 ≤ maxLen
theorem ErZ.step {V V2 : World} {A : Option Addr} {Z : List TrdZ} (h : ErZ V A Z) (hb : Below V.heap.size V V2) : ErZ V2 A Z :=
 ⟨(h.1.below hb).more hb.size, fun z hz => ⟨((h.2 z hz).1.below hb).more hb.size, (h.2 z hz).2⟩⟩
def zA (Z : List TrdZ) (k : Nat) : Option Addr := (Z.getD k default).2.1
def zc (Z : List TrdZ) (k : Nat) : Nat := (Z.getD k default).2.2.1
theorem erz_cells {V : World} {b o : Nat} {Z : List TrdZ} {rs : List RuT} {es : List ErT} (h : ErZ V (some ⟨b, o, none⟩) Z) (hZ : Z.map (fun z => (z.1, z.2.2.2)) = es.map fun x => (x, trnL rs x)) {k : Nat} (hk : k < es.length) :
  b < V.heap.size ∧ V.cell? ⟨b, o + k * 7, none⟩ = some (.int .i64 es[k]!.off) ∧ V.cell? ⟨b, o + k * 7 + 1, none⟩ = some (.string es[k]!.rules) ∧ V.cell? ⟨b, o + k * 7 + 2, none⟩ = some (.int .i64 es[k]!.save) ∧ V.cell? ⟨b, o + k * 7 + 3, none⟩ = some (.string es[k]!.format) ∧ V.cell? ⟨b, o + k * 7 + 4, none⟩ = some (.int .i64 es[k]!.until_) ∧ V.cell? ⟨b, o + k * 7 + 5, none⟩ = some (.slice (zA Z k) (trnL rs es[k]!).length (zc Z k)) ∧ V.cell? ⟨b, o + k * 7 + 6, none⟩ = some (.string (fstL (trnL rs es[k]!))) ∧
   SlAt V V.heap.size 3 (zA Z k) ((trnL rs es[k]!).map tuCells) ∧ (trnL rs es[k]!).length ≤ zc Z k ∧ zc Z k ≤ maxLen := by
 have hl : Z.length = es.length := by have := congrArg List.length hZ; simpa using this
 have hkz : k < Z.length := by omega
 have hz : (Z[k].1, Z[k].2.2.2) = (es[k], trnL rs es[k]) := by
  have h1 : (Z.map (fun z => (z.1, z.2.2.2)))[k]'(by simpa using hkz) = (es.map fun x => (x, trnL rs x))[k]'(by simpa using hk) := by simp only [hZ]
  simpa using h1
 simp only [Prod.mk.injEq] at hz
 obtain ⟨e1, e2⟩ := hz
 obtain ⟨b', o', hA, hb, hc⟩ := h.1 (by simp; omega)
 simp only [Option.some.injEq, Addr.mk.injEq, and_true] at hA
 obtain ⟨rfl, rfl⟩ := hA
 have hc0 := hc k (by simpa using hkz)
 obtain ⟨h7, h8, h9⟩ := h.2 Z[k] (List.getElem_mem hkz)
 have e : (Z.map trC).getD k [] = [.int .i64 Z[k].1.off, .string Z[k].1.rules, .int .i64 Z[k].1.save, .string Z[k].1.format, .int .i64 Z[k].1.until_, .slice Z[k].2.1 Z[k].2.2.2.length Z[k].2.2.1, .string (fstL Z[k].2.2.2)] := by simp [List.getD, hkz]; rfl
 have hzA : zA Z k = Z[k].2.1 := by simp [zA, List.getD, hkz]
 have hzc : zc Z k = Z[k].2.2.1 := by simp [zc, List.getD, hkz]
 rw [get_bang hk, hzA, hzc]
 rw [e2] at h7 h8
 rw [e, e1, e2] at hc0
 exact ⟨hb, hc0 0 (by omega), hc0 1 (by omega), hc0 2 (by omega), hc0 3 (by omega), hc0 4 (by omega), hc0 5 (by omega), hc0 6 (by omega), h7, h8, h9⟩
theorem es_until {rs : List RuT} {zs : List ZoT} {ls : List LkT} (h : bookE rs zs ls = 0) {z : ZoT} (hz : z ∈ zs) : ∀ k, k + 1 < z.eras.length → -1099511627776 ≤ z.eras[k]!.until_ ∧ z.eras[k]!.until_ ≤ 1099511627776 := by
 obtain ⟨i, hi, rfl⟩ := List.getElem_of_mem hz
 have h1 := zoE_inv ((bookE_inv h).2.2.1 i hi)
 rw [get_bang hi] at h1
 intro k hk
 have h2 := firE_inv h1.2.2.2.2 k (by omega)
 rw [erE] at h2
 split at h2
 ·rw [erE2, if_neg (by omega)] at h2
  split at h2
  ·cases h2
  ·rename_i h3; exact Classical.not_not.1 h3
 ·rename_i h3; exact absurd h2 h3
theorem isTime_st (t : Int) : isTimeB t = decide (stE t = 0) := by
 have h : isTimeB t = dateOk (t / 86400) := by
  unfold isTimeB dateOk
  rw [Bool.eq_iff_iff]
  simp
  omega
 rw [h, stE]
 cases dateOk (t / 86400) <;> simp
theorem stE_bd {t : Int} (h : stE t = 0) : -11676096000 ≤ t ∧ t < 13569465600 := by
 have h1 : isTimeB t = true := by rw [isTime_st, h]; rfl
 unfold isTimeB at h1
 simpa using h1
theorem abV_size (F letter : ByteArray) (save : Int) : (abV F save letter).size ≤ 8 := by
 unfold abV
 split
 ·rename_i h
  unfold abE at h
  repeat' split at h
  all_goals first | omega | (cases h; done) | skip
 ·show (0 : Nat) ≤ 8; omega
theorem tT_name (rs : List RuT) (es : List ErT) (k : Nat) (t : Int) : (tT rs es k t).2.2.size ≤ maxLen := by
 have h : (tT rs es k t).2.2.size ≤ 8 := abV_size _ _ _
 unfold maxLen; omega
theorem prg_names {rs : List RuT} {es : List ErT} {F T : Int} {k0 m : Nat} : ∀ c ∈ prgL rs es F T k0 m, c.2.2.2.size ≤ maxLen := by
 intro c hc
 obtain ⟨l, hl, hc⟩ := List.mem_flatten.1 hc
 obtain ⟨j, _, rfl⟩ := List.mem_map.1 hl
 rcases List.mem_append.1 hc with hc | hc
 ·unfold opK at hc
  split at hc
  ·cases hc
  ·rw [List.mem_singleton.1 hc]; exact tT_name _ _ _ _
 ·obtain ⟨t, _, rfl⟩ := List.mem_map.1 hc
  exact tT_name _ _ _ _
theorem own_heapK {W W2 : World} {base e size n : Nat} {v : Value} {xs : List Value} (h : W.ownsRow base e size v n xs) (hk : ∀ k, v.ownBlock = some k → W2.heap[k]? = W.heap[k]?) : W2.ownsRow base e size v n xs := by
 refine ⟨h.1, ?_⟩
 rcases h.2 with h | ⟨g, c, cur, a1, a2, a3, a4⟩
 ·exact Or.inl h
 ·refine Or.inr ⟨g, c, cur, a1, a2, ?_, a4⟩
  rw [hk g (by rw [a1]; rfl)]; exact a3
def TmPost (E : Int) (s : NSt) (w : World) (e : Ending) (w' : World) : Prop :=
 ∃ A C capT capC, e = .returned (.tuple #[tabV A C capT capC (if E = 0 then s.ts else []) 0 (if E = 0 then s.cs else []), .int .i64 E]) ∧ TabAt w' A C capT capC (if E = 0 then s.ts else []) (if E = 0 then s.cs else []) ∧ Below w.heap.size w w'
theorem tabAt_none (w : World) : TabAt w none none 0 0 [] [] := ⟨SlAt.none_ _ _ _ _, SlAt.none_ _ _ _ _, Nat.le_refl _, by unfold maxLen; omega, Nat.le_refl _, by unfold maxLen; omega, by simp⟩
theorem tm_bad {E : Int} {s : NSt} {w w' : World} (h0 : E ≠ 0) (hb : Below w.heap.size w w') : TmPost E s w (.returned (.tuple #[.agg #[.slice none 0 0, .int .i64 0, .slice none 0 0], .int .i64 E])) w' :=
 ⟨none, none, 0, 0, by rw [if_neg h0, if_neg h0]; rfl, by rw [if_neg h0, if_neg h0]; exact tabAt_none w', hb⟩
end Go.Proofs.YthppifcggmdmoaaGreatDoor

