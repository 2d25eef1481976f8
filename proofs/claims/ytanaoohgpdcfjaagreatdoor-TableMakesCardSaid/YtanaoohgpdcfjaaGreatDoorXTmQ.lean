/- Tables of a zone, in plain Lean: the times at which there may be a change, as the program takes them and as the reference does. Walks of (Turned).Within and of table.Make's closure. What table.Make keeps in memory; what it answers. Walk of the reference's built, with a closure of two captured pointers. The reference's closure in TableMake: the type of a zone at a time. What TableMake keeps of the eras' turns. -/
import Derived.Test.YtanaoohgpdcfjaaGreatDoorSaR
import Derived.Test.YtanaoohgpdcfjaaGreatDoorXNmW
import Derived.Test.YtanaoohgpdcfjaaGreatDoorXTbQ
import Derived.Deep.Cut
namespace Go.Proofs.YtanaoohgpdcfjaaGreatDoor
open Go.RowKit
set_option linter.unusedVariables false
set_option linter.unusedSimpArgs false
/-- the turns' times from one to another -/
def evs (l : List TuT) (lo hi : Int) : List Int := (l.filter fun u => decide (lo ≤ u.1) && decide (u.1 ≤ hi)).map (·.1)
theorem evs_mem {l : List TuT} {lo hi t : Int} (h : t ∈ evs l lo hi) : lo ≤ t ∧ t ≤ hi := by
  obtain ⟨u, hu, rfl⟩ := List.mem_map.1 h
  have := (List.mem_filter.1 hu).2
  simp at this; exact this
theorem evs_empty {l : List TuT} {lo hi : Int} (h : hi < lo) : evs l lo hi = [] := by
  unfold evs
  rw [List.filter_eq_nil_iff.2]
  · rfl
  · intro u _; simp; omega
theorem evs_len (l : List TuT) (lo hi : Int) : (evs l lo hi).length ≤ l.length := by
  unfold evs; rw [List.length_map]; exact List.length_filter_le _ _
theorem evs_no {l : List TuT} {a hi : Int} (h : ∀ u ∈ l, u.1 ≠ a) : evs l a hi = evs l (a + 1) hi := by
  unfold evs
  congr 1
  refine List.filter_congr (fun u hu => ?_)
  have := h u hu
  congr 1
  rw [decide_eq_decide]; omega
theorem evs_head : ∀ {l : List TuT} {a hi : Int}, TuSorted l → (∃ u ∈ l, u.1 = a) → a ≤ hi → evs l a hi = a :: evs l (a + 1) hi
  | [], a, hi, _, ⟨u, hu, _⟩, _ => by cases hu
  | v :: l, a, hi, hs, ⟨u, hu, hua⟩, ha => by
    obtain ⟨h1, h2⟩ := List.pairwise_cons.1 hs
    rcases List.mem_cons.1 hu with rfl | hu
    · have e1 : ∀ w ∈ l, w.1 ≠ a := fun w hw => by have := h1 w hw; omega
      have e2 := evs_no (hi := hi) e1
      unfold evs at e2 ⊢
      rw [List.filter_cons_of_pos (by simp; omega), List.filter_cons_of_neg (by simp; omega), List.map_cons, e2, hua]
    · have hv : v.1 < a := by have := h1 u hu; omega
      have ih := evs_head (hi := hi) h2 ⟨u, hu, hua⟩ ha
      unfold evs at ih ⊢
      rw [List.filter_cons_of_neg (by simp; omega), List.filter_cons_of_neg (by simp; omega)]
      exact ih
/-- states of a table that is built, from a state on -/
def nF (s : NSt) (l : List (Int × Ty)) : NSt := l.foldl (fun s c => nStep s c.1 c.2) s
theorem nBuild_nF (first : Ty) (l : List (Int × Ty)) : nBuild first l = nF (nBegin first) l := rfl
theorem nF_app (s : NSt) (a b : List (Int × Ty)) : nF s (a ++ b) = nF (nF s a) b := by unfold nF; rw [List.foldl_append]
theorem nF_snoc (s : NSt) (a : List (Int × Ty)) (c : Int × Ty) : nF s (a ++ [c]) = nStep (nF s a) c.1 c.2 := by rw [nF_app]; rfl
/-- an era at a time -/
theorem eraI_in {es : List ErT} (hs : ErSorted es) {t : Int} {k : Nat} (hk : k < es.length) (h1 : k = 0 ∨ es[k - 1]!.until_ ≤ t) (h2 : k + 1 = es.length ∨ t < es[k]!.until_) : eraI es t = k := by
  obtain ⟨a, b, c⟩ := eraI_spec hs t
  rcases Nat.lt_trichotomy (eraI es t) k with h | h | h
  · exfalso
    have hk0 : k ≠ 0 := by omega
    rcases h1 with h1 | h1
    · exact hk0 h1
    · rw [get_bang (show k - 1 < es.length by omega)] at h1
      have := c (k - 1) (by omega) (by omega)
      omega
  · exact h
  · exfalso
    rcases h2 with h2 | h2
    · omega
    · rw [get_bang hk] at h2
      have := b k hk h
      omega
def tT (rs : List RuT) (es : List ErT) (k : Nat) (t : Int) : Ty := typeV es[k]! (trnL rs es[k]!) t
def fT (rs : List RuT) (es : List ErT) (t : Int) : Ty := tT rs es (eraI es t) t
/-- an era's span -/
def hiK (es : List ErT) (T : Int) (k : Nat) : Int := if k + 1 < es.length then min (T - 1) (es[k]!.until_ - 1) else T - 1
def loK (es : List ErT) (F : Int) (k : Nat) : Int := if k = 0 then F + 1 else max (F + 1) es[k - 1]!.until_
/-- the reference's times of an era -/
def refK (rs : List RuT) (es : List ErT) (F T : Int) (k : Nat) : List Int := if hiK es T k < loK es F k then [] else loK es F k :: evs (trnL rs es[k]!) (loK es F k + 1) (hiK es T k)
def refL (rs : List RuT) (es : List ErT) (F T : Int) (n : Nat) : List Int := ((List.range n).map (refK rs es F T)).flatten
theorem refL_succ (rs : List RuT) (es : List ErT) (F T : Int) (n : Nat) : refL rs es F T (n + 1) = refL rs es F T n ++ refK rs es F T n := by unfold refL; rw [List.range_succ, List.map_append, List.flatten_append]; simp
/-- the program's changes of an era: the opening one; those of its turns -/
def opK (rs : List RuT) (es : List ErT) (k0 k : Nat) : List (Int × Ty) := if k = k0 then [] else [(es[k - 1]!.until_, tT rs es k es[k - 1]!.until_)]
def frK (es : List ErT) (F : Int) (k0 k : Nat) : Int := if k = k0 then F + 1 else es[k - 1]!.until_ + 1
def tnK (rs : List RuT) (es : List ErT) (F T : Int) (k0 k : Nat) : List (Int × Ty) := (evs (trnL rs es[k]!) (frK es F k0 k) (hiK es T k)).map fun t => (t, tT rs es k t)
def prgK (rs : List RuT) (es : List ErT) (F T : Int) (k0 k : Nat) : List (Int × Ty) := opK rs es k0 k ++ tnK rs es F T k0 k
/-- all of them, ahead of era k0 + m -/
def prgL (rs : List RuT) (es : List ErT) (F T : Int) (k0 m : Nat) : List (Int × Ty) := ((List.range m).map fun j => prgK rs es F T k0 (k0 + j)).flatten
theorem prgL_succ (rs : List RuT) (es : List ErT) (F T : Int) (k0 m : Nat) : prgL rs es F T k0 (m + 1) = prgL rs es F T k0 m ++ prgK rs es F T k0 (k0 + m) := by unfold prgL; rw [List.range_succ, List.map_append, List.flatten_append]; simp
theorem prgK_len (rs : List RuT) (es : List ErT) (F T : Int) (k0 k : Nat) : (prgK rs es F T k0 k).length ≤ 1501 := by
  unfold prgK opK tnK
  rw [List.length_append, List.length_map]
  have h1 := evs_len (trnL rs es[k]!) (frK es F k0 k) (hiK es T k)
  have h2 := trnL_len rs es[k]!
  split
  · simp only [List.length_nil]; omega
  · simp only [List.length_cons, List.length_nil]; omega
theorem prgL_len (rs : List RuT) (es : List ErT) (F T : Int) (k0 : Nat) : ∀ m, (prgL rs es F T k0 m).length ≤ 1501 * m
  | 0 => by simp [prgL]
  | m + 1 => by
    rw [prgL_succ, List.length_append]
    have h1 := prgL_len rs es F T k0 m
    have h2 := prgK_len rs es F T k0 (k0 + m)
    omega
theorem refK_len (rs : List RuT) (es : List ErT) (F T : Int) (k : Nat) : (refK rs es F T k).length ≤ 1501 := by
  unfold refK
  split
  · simp
  · have h1 := evs_len (trnL rs es[k]!) (loK es F k + 1) (hiK es T k)
    have h2 := trnL_len rs es[k]!
    rw [List.length_cons]; omega
theorem refL_len (rs : List RuT) (es : List ErT) (F T : Int) : ∀ n, (refL rs es F T n).length ≤ 1501 * n
  | 0 => by simp [refL]
  | n + 1 => by
    rw [refL_succ, List.length_append]
    have h1 := refL_len rs es F T n
    have h2 := refK_len rs es F T n
    omega
/-- eras' ends go up -/
theorem until_up {es : List ErT} (hs : ErSorted es) {i j : Nat} (hij : i < j) (hj : j + 1 < es.length) : es[i]!.until_ < es[j]!.until_ := by
  have := (List.pairwise_iff_getElem.1 hs) i j (by rw [List.length_dropLast]; omega) (by rw [List.length_dropLast]; omega) hij
  rw [List.getElem_dropLast, List.getElem_dropLast] at this
  rw [get_bang (by omega), get_bang (by omega)]
  exact this
section
variable {rs : List RuT} {es : List ErT} {F T : Int}
/-- eras that end ahead of the span -/
theorem refK_ahead (hs : ErSorted es) {k : Nat} (hk : k < eraI es F) : refK rs es F T k = [] := by
  obtain ⟨a, b, c⟩ := eraI_spec hs F
  have h1 := b k (by omega) hk
  unfold refK
  rw [if_pos]
  unfold hiK loK
  rw [if_pos (by omega), get_bang (by omega)]
  split <;> omega
/-- eras that begin behind it -/
theorem refK_behind (hs : ErSorted es) {k : Nat} (hk : 0 < k) (hkl : k < es.length) (h : T ≤ es[k - 1]!.until_) : refK rs es F T k = [] := by
  have e : loK es F k = max (F + 1) es[k - 1]!.until_ := by unfold loK; rw [if_neg (by omega)]
  unfold refK
  rw [if_pos]
  rw [e]
  unfold hiK
  split <;> omega
/-- an era that begins within it -/
theorem refK_mid (hs : ErSorted es) {k : Nat} (hk : eraI es F < k) (hkl : k < es.length) (h : es[k - 1]!.until_ < T) : (refK rs es F T k).map (fun t => (t, fT rs es t)) = prgK rs es F T (eraI es F) k := by
  obtain ⟨a, b, c⟩ := eraI_spec hs F
  have hF : F < es[k - 1]!.until_ := by rw [get_bang (by omega)]; exact c (k - 1) (by omega) (by omega)
  have hlo : loK es F k = es[k - 1]!.until_ := by unfold loK; rw [if_neg (by omega)]; omega
  have hhi : es[k - 1]!.until_ ≤ hiK es T k := by
    unfold hiK
    split
    · have := until_up hs (i := k - 1) (j := k) (by omega) (by omega); omega
    · omega
  have hin : ∀ t, es[k - 1]!.until_ ≤ t → t ≤ hiK es T k → fT rs es t = tT rs es k t := by
    intro t h1 h2
    unfold fT
    rw [eraI_in hs hkl (Or.inr h1) (by
      unfold hiK at h2
      split at h2
      · exact Or.inr (by omega)
      · exact Or.inl (by omega))]
  unfold refK prgK opK tnK frK
  rw [hlo, if_neg (by omega), if_neg (by omega), if_neg (by omega), List.map_cons, hin _ (Int.le_refl _) hhi]
  show _ :: _ = _ :: _
  congr 1
  refine List.map_congr_left (fun t ht => ?_)
  obtain ⟨h1, h2⟩ := evs_mem ht
  rw [hin t (by omega) h2]
theorem tuCount_no {l : List TuT} (hs : TuSorted l) (h : ∀ u ∈ l, u.1 ≠ F + 1) : tuCount l (F + 1) = tuCount l F := by
  obtain ⟨a, b, c⟩ := tuCount_spec hs F
  obtain ⟨a', b', c'⟩ := tuCount_spec hs (F + 1)
  rcases Nat.lt_trichotomy (tuCount l (F + 1)) (tuCount l F) with h1 | h1 | h1
  · have h2 := b (tuCount l (F + 1)) (by omega) h1
    have h3 := c' (tuCount l (F + 1)) (by omega) (Nat.le_refl _)
    omega
  · exact h1
  · have h2 := c (tuCount l F) (by omega) (Nat.le_refl _)
    have h3 := b' (tuCount l F) (by omega) h1
    have h4 := h _ (List.getElem_mem (show tuCount l F < l.length by omega))
    omega
theorem typeV_no {x : ErT} {l : List TuT} (hs : TuSorted l) (h : ∀ u ∈ l, u.1 ≠ F + 1) : typeV x l (F + 1) = typeV x l F := by
  unfold typeV stS
  rw [tuCount_no hs h]
/-- the first era -/
theorem refK_first (hs : ErSorted es) (h0 : 0 < es.length) : nF (nBegin (fT rs es F)) ((refK rs es F T (eraI es F)).map fun t => (t, fT rs es t)) = nF (nBegin (fT rs es F)) (prgK rs es F T (eraI es F) (eraI es F)) := by
  obtain ⟨a, b, c⟩ := eraI_spec hs F
  obtain ⟨k, hk⟩ : ∃ k, eraI es F = k := ⟨_, rfl⟩
  have hfF : fT rs es F = tT rs es k F := by unfold fT; rw [hk]
  rw [hk] at a b c ⊢
  have hkl : k < es.length := by omega
  have hlo : loK es F k = F + 1 := by
    unfold loK
    split
    · rfl
    · have := b (k - 1) (by omega) (by omega)
      rw [get_bang (by omega)]; omega
  have hin : ∀ t, F + 1 ≤ t → t ≤ hiK es T k → fT rs es t = tT rs es k t := by
    intro t h1 h2
    unfold fT
    rw [eraI_in hs hkl (by
      by_cases hk0 : k = 0
      · exact Or.inl hk0
      · have := b (k - 1) (by omega) (by omega)
        rw [get_bang (by omega)]
        exact Or.inr (by omega)) (by
      unfold hiK at h2
      split at h2
      · exact Or.inr (by omega)
      · exact Or.inl (by omega))]
  unfold refK prgK opK tnK frK
  rw [hlo, if_pos rfl, if_pos rfl, List.nil_append]
  split
  · rename_i h1
    rw [evs_empty h1]
    rfl
  · rename_i h1
    rw [List.map_cons, hin _ (Int.le_refl _) (by omega)]
    have hmap : (evs (trnL rs es[k]!) (F + 1 + 1) (hiK es T k)).map (fun t => (t, fT rs es t)) = (evs (trnL rs es[k]!) (F + 1 + 1) (hiK es T k)).map fun t => (t, tT rs es k t) := by
      refine List.map_congr_left (fun t ht => ?_)
      obtain ⟨h2, h3⟩ := evs_mem ht
      rw [hin t (by omega) h3]
    rw [hmap]
    by_cases hu : ∃ u ∈ trnL rs es[k]!, u.1 = F + 1
    · rw [evs_head (trnL_sorted _ _) hu (by omega)]
      rfl
    · have hn : ∀ u ∈ trnL rs es[k]!, u.1 ≠ F + 1 := fun u h2 h3 => hu ⟨u, h2, h3⟩
      rw [evs_no hn]
      show nF (nStep (nBegin (fT rs es F)) (F + 1) (tT rs es k (F + 1))) _ = _
      rw [nStep_same]
      show tT rs es k (F + 1) = fT rs es F
      rw [hfF]
      exact typeV_no (trnL_sorted _ _) hn
/-- both ways give one table -/
theorem tab_both (hs : ErSorted es) (h0 : 0 < es.length) (m : Nat) (hm : eraI es F + m + 1 ≤ es.length) (h1 : ∀ j, j < m → es[eraI es F + j]!.until_ < T) (h2 : eraI es F + m + 1 = es.length ∨ T ≤ es[eraI es F + m]!.until_) :
    nBuild (fT rs es F) ((refL rs es F T es.length).map fun t => (t, fT rs es t)) = nBuild (fT rs es F) (prgL rs es F T (eraI es F) (m + 1)) := by
  have ha : ∀ n, n ≤ eraI es F → refL rs es F T n = [] := by
    intro n
    induction n with
    | zero => intro _; rfl
    | succ n ih => intro hn; rw [refL_succ, ih (by omega), refK_ahead hs (by omega)]; rfl
  have hb : ∀ j, j ≤ m → nBuild (fT rs es F) ((refL rs es F T (eraI es F + j + 1)).map fun t => (t, fT rs es t)) = nBuild (fT rs es F) (prgL rs es F T (eraI es F) (j + 1)) := by
    intro j
    induction j with
    | zero =>
      intro _
      rw [Nat.add_zero, refL_succ, ha _ (Nat.le_refl _), List.nil_append, prgL_succ, nBuild_nF, nBuild_nF, Nat.add_zero]
      show _ = nF _ ([] ++ _)
      rw [List.nil_append]
      exact refK_first hs h0
    | succ j ih =>
      intro hj
      have ih := ih (by omega)
      rw [show eraI es F + (j + 1) + 1 = (eraI es F + j + 1) + 1 by omega, refL_succ, List.map_append, nBuild_nF, nF_app, ← nBuild_nF, ih, prgL_succ _ _ _ _ _ (j + 1), nBuild_nF _ (prgL _ _ _ _ _ _ ++ _), nF_app, ← nBuild_nF]
      congr 1
      rw [show eraI es F + (j + 1) = eraI es F + j + 1 by omega]
      refine refK_mid hs (by omega) (by omega) ?_
      have := h1 j (by omega)
      rwa [show eraI es F + j + 1 - 1 = eraI es F + j by omega]
  have hc : ∀ n, eraI es F + m + 1 + n ≤ es.length → refL rs es F T (eraI es F + m + 1 + n) = refL rs es F T (eraI es F + m + 1) := by
    intro n
    induction n with
    | zero => intro _; rfl
    | succ n ih =>
      intro hn
      rw [show eraI es F + m + 1 + (n + 1) = (eraI es F + m + 1 + n) + 1 by omega, refL_succ, ih (by omega)]
      have h3 : refK rs es F T (eraI es F + m + 1 + n) = [] := by
        rcases h2 with h2 | h2
        · omega
        · refine refK_behind hs (by omega) (by omega) ?_
          rw [show eraI es F + m + 1 + n - 1 = eraI es F + m + n by omega]
          by_cases hn0 : n = 0
          · subst hn0; exact h2
          · have := until_up hs (i := eraI es F + m) (j := eraI es F + m + n) (by omega) (by omega)
            omega
      rw [h3, List.append_nil]
  have hd := hc (es.length - (eraI es F + m + 1)) (by omega)
  rw [show eraI es F + m + 1 + (es.length - (eraI es F + m + 1)) = es.length by omega] at hd
  rw [hd]
  exact hb m (Nat.le_refl _)
end
end Go.Proofs.YtanaoohgpdcfjaaGreatDoor
namespace Go.Proofs.YtanaoohgpdcfjaaGreatDoor
open Go.RowKit
set_option linter.unusedVariables false
set_option linter.unusedSimpArgs false
attribute [local go_sem ↓] Go.wp_at_zero Go.wp_at_succ
theorem info_int : (Tryz.prog.info? 3).map (fun i => (i.zero, i.size, i.bytes)) = some (some (.int .i64 0), 1, 8) := by kernel_rfl
set_option maxRecDepth 100000 in
theorem t_none (n : Int) (w : World) :
    Calls Tryz.prog 47 #[.int .i64 n] w fun e w' => e = .returned (.tuple #[.agg #[.slice none 0 0, .int .i64 0, .slice none 0 0], .int .i64 n]) ∧ Below w.heap.size w w' := by
  have hb1 := (Below.refl w.heap.size w).alloc (Nat.le_refl _) (.cells #[.slice none 0 0, .int .i64 0, .slice none 0 0] 45)
  have HT := Lib.hid (Blk.new w #[.slice none 0 0, .int .i64 0, .slice none 0 0] 45)
  obtain ⟨W, hW⟩ : ∃ W, w.alloc (.cells #[.slice none 0 0, .int .i64 0, .slice none 0 0] 45) = W := ⟨_, rfl⟩
  rw [hW] at hb1 HT
  have HB := Lib.hid hb1
  clear hb1
  have tr := HT.out.frz
  have tl := HT.out.lt
  have tc := HT.out.cell
  go_enter Tryz.func47, Tryz.ntmps47
  go_wp2_with fail
  have HF := Lib.hid (blk3 HT.out (x := .slice none 0 0) (y := .int .i64 0) (z := .slice none 0 0))
  have HBF := Lib.hid (show Below w.heap.size w (((W.setCell ⟨w.heap.size, 0, none⟩ (.slice none 0 0)).setCell ⟨w.heap.size, 1, none⟩ (.int .i64 0)).setCell ⟨w.heap.size, 2, none⟩ (.slice none 0 0)) from below3 HB.out (Nat.le_refl _))
  obtain ⟨U, hU⟩ : ∃ U, (((W.setCell ⟨w.heap.size, 0, none⟩ (.slice none 0 0)).setCell ⟨w.heap.size, 1, none⟩ (.int .i64 0)).setCell ⟨w.heap.size, 2, none⟩ (.slice none 0 0)) = U := ⟨_, rfl⟩
  rw [hU] at HF HBF ⊢
  have hf := HF.out.cell
  exact bodyPost_ret (v := .tuple #[.agg #[.slice none 0 0, .int .i64 0, .slice none 0 0], .int .i64 n]) (by simp [results, Tryz.results47, go_sem, hf]) rfl ⟨rfl, HBF.out⟩
theorem evs_take {l : List TuT} {lo hi : Int} {k : Nat} (hk : k < l.length) : evs (l.take (k + 1)) lo hi = evs (l.take k) lo hi ++ if lo ≤ l[k].1 ∧ l[k].1 ≤ hi then [l[k].1] else [] := by
  unfold evs
  rw [List.take_succ_eq_append_getElem hk, List.filter_append, List.map_append]
  congr 1
  by_cases h : lo ≤ l[k].1 ∧ l[k].1 ≤ hi
  · rw [if_pos h, List.filter_cons_of_pos (by simp; exact h)]; rfl
  · rw [if_neg h, List.filter_cons_of_neg (by simp; omega)]; rfl
set_option maxRecDepth 100000 in
set_option maxHeartbeats 4000000 in
theorem s_Within (x : ErT) (A : Option Addr) (cap : Nat) (l : List TuT) (f : ByteArray) (lo hi : Int) (w : World) (hA : SlAt w w.heap.size 3 A (l.map tuCells)) (hc : l.length ≤ cap) (hm : cap ≤ maxLen) (hn : l.length ≤ 1500) :
    Calls Tryz.prog 49 #[.agg (trdA x A l.length cap f), .int .i64 lo, .int .i64 hi] w fun e w' => ∃ v, e = .returned v ∧ w'.ownsRow w.heap.size 3 1 v ((evs l lo hi).map inCells).length ((evs l lo hi).map inCells).flatten ∧ Below w.heap.size w w' := by
  unfold maxLen at hm
  obtain ⟨i0, hi0, hz0, hz1, hz2⟩ := info_parts info_int
  have hb1 := (Below.refl w.heap.size w).alloc (Nat.le_refl _) (.cells (trdA x A l.length cap f) 95)
  have HK := Lib.hid (Blk.new w (trdA x A l.length cap f) 95)
  have HA := Lib.hid (fun (V : World) (hb : Below w.heap.size w V) => hA.below hb)
  have HB := Lib.hid hb1
  clear hb1 hA
  have kr := HK.out.cell
  have kl := HK.out.lt
  go_enter Tryz.func49, Tryz.ntmps49
  go_wp2_with fail
  clear kr kl
  go_loopw [7, 13] (fun v i wr => ∃ k : Nat, k ≤ l.length ∧ i = .int .i64 k ∧ Hid (wr.ownsRow w.heap.size 3 1 v ((evs (l.take k) lo hi).map inCells).length ((evs (l.take k) lo hi).map inCells).flatten) ∧ Hid (Below w.heap.size w wr)) (fun _ i _ => l.length - (intOf i).toNat)
  case atStart => exact ⟨0, Nat.zero_le _, rfl, Lib.hid (World.ownsRow_nil _ _ _ _), HB⟩
  case round =>
    clear HB HK
    obtain ⟨k, hk, rfl, HO, HB⟩ := hrel
    by_cases hlt : k < l.length
    · obtain ⟨b, o, rfl, hb, c0, c1, c2⟩ := tu_at (HA.out _ HB.out) hlt
      have hz := HB.out.size
      have hbw : b < wr.heap.size := by omega
      have hi1 : (0 : Int) ≤ (k : Int) := by omega
      have hi2 : (k : Int) < (l.length : Int) := by omega
      have HE := Lib.hid (evs_take (lo := lo) (hi := hi) hlt)
      have hl := evs_len (l.take k) lo hi
      rw [List.length_take] at hl
      obtain ⟨u, hu⟩ : ∃ u, l[k] = u := ⟨_, rfl⟩
      rw [hu] at c0 c1 c2 HE
      obtain ⟨L, hL⟩ : ∃ L, evs (l.take k) lo hi = L := ⟨_, rfl⟩
      rw [hL] at HO HE hl
      clear hu hL
      have hV := (Below.refl wr.heap.size wr).alloc (Nat.le_refl _) (.cells #[.int .i64 u.1, .int .i64 u.2.1, .string u.2.2] 34)
      replace HO := Lib.hid (own_step HO.out hV)
      replace HB := Lib.hid (HB.out.trans (hV.mono hz))
      have HX := Lib.hid (Blk.new wr #[.int .i64 u.1, .int .i64 u.2.1, .string u.2.2] 34)
      clear hV
      by_cases h1 : lo ≤ u.1
      · by_cases h2 : u.1 ≤ hi
        · have HE2 := Lib.hid (show evs (l.take (k + 1)) lo hi = L ++ [u.1] by rw [HE.out, if_pos ⟨h1, h2⟩])
          clear HE
          obtain ⟨Q, hQ⟩ : ∃ Q, (L.map inCells).flatten = Q := ⟨_, rfl⟩
          have hLl : (L.map inCells).length = L.length := List.length_map _
          rw [hQ, hLl] at HO
          have HQ := Lib.hid (And.intro hQ hLl)
          clear hQ hLl
          go_upto_region 6 with fail
          obtain ⟨V, hV⟩ : ∃ V, wr.alloc (.cells #[.int .i64 u.1, .int .i64 u.2.1, .string u.2.2] 34) = V := ⟨_, rfl⟩
          obtain ⟨g, hg⟩ : ∃ g, wr.heap.size = g := ⟨_, rfl⟩
          rw [hV] at HO HB HX ⊢
          rw [hg] at HX ⊢
          clear hV hg c0 c1 c2
          have xc := HX.out.cell
          have xl := HX.out.lt
          have hzV : w.heap.size ≤ V.heap.size := HB.out.size
          go_wp2_with (at_builtin; refine wpList_append_lies _ rfl _ _ _ rfl w.heap.size 3 i0 _ 1 8 Tryz.underlying101 hi0 hz0 hz1 hz2 rfl (by omega) u7 L.length _ rfl (World.ownsRow.alloc HO.out _) ⟨V.heap.size, 0, none⟩ 1 1 [.int .i64 u.1] rfl rfl (World.news_of_block (cs := #[.int .i64 u.1]) (t := 3) (fr := (0, 0)) (heap_alloc_new V _)) (by simp [Value.oneCell']) (by omega) (by unfold maxLen; omega) (by omega) (by simp; omega) (V.heap.size + 1) (by simp) ?_; intro gg cap2 w6 hown1 hgrow hat hlt6)
          have hoa := World.ownsRow.alloc HO.out (.cells #[.int .i64 u.1] 3)
          exact ⟨⟨k + 1, by omega, by go_num, Lib.hid (by
            have e1 : ((L ++ [u.1]).map inCells).length = L.length + 1 := by simp
            have e2 : ((L ++ [u.1]).map inCells).flatten = Q ++ [.int .i64 u.1] := by rw [List.map_append, List.flatten_append, HQ.out.1]; rfl
            rw [HE2.out, e1, e2]; exact hown1), Lib.hid ((HB.out.alloc hzV _).grown hgrow (by simp; omega) (fun k hk => (World.ownsRow.lt hoa k hk).1))⟩, by simp only [intOf]; omega⟩
        · have HE2 := Lib.hid (show evs (l.take (k + 1)) lo hi = L by rw [HE.out, if_neg (fun h => h2 h.2), List.append_nil])
          clear HE HX
          go_wp2_with fail
          exact ⟨⟨k + 1, by omega, by go_num, Lib.hid (by rw [HE2.out]; exact HO.out), HB⟩, by simp only [intOf]; omega⟩
      · have HE2 := Lib.hid (show evs (l.take (k + 1)) lo hi = L by rw [HE.out, if_neg (fun h => h1 h.1), List.append_nil])
        clear HE HX
        go_wp2_with fail
        exact ⟨⟨k + 1, by omega, by go_num, Lib.hid (by rw [HE2.out]; exact HO.out), HB⟩, by simp only [intOf]; omega⟩
    · obtain rfl : k = l.length := by omega
      rw [List.take_length] at HO
      go_wp2_with fail
      go_ret
      exact ⟨_, rfl, HO.out, HB.out⟩
end Go.Proofs.YtanaoohgpdcfjaaGreatDoor
namespace Go.Proofs.YtanaoohgpdcfjaaGreatDoor
open Go.RowKit
set_option linter.unusedVariables false
set_option linter.unusedSimpArgs false
abbrev tb0 : Array Value := #[.slice none 0 0, .int .i64 0, .slice none 0 0]
/-- the boxes of a call that makes a table -/
structure TmW (w V : World) (B gz : Nat) (bk sp zo : Array Value) (A : Option Addr) (es : List ErT) : Prop where
  K : Blk V B 26 bk
  S : Blk V (B + 1) 41 sp
  T : Blk V (B + 1 + 1) 45 tb0
  Z : Blk V gz 74 zo
  E : SlAt V V.heap.size 5 A (es.map erC)
  L : Below w.heap.size w V
theorem TmW.step {w V V2 : World} {B gz : Nat} {bk sp zo : Array Value} {A : Option Addr} {es : List ErT} (h : TmW w V B gz bk sp zo A es) (hb : Below V.heap.size V V2) : TmW w V2 B gz bk sp zo A es :=
  ⟨h.K.step hb, h.S.step hb, h.T.step hb, h.Z.step hb, (h.E.below hb).more hb.size, h.L.trans (hb.mono h.L.size)⟩
/-- the eras with their turns, as they lie in memory -/
def ErZ (V : World) (A : Option Addr) (Z : List TrdZ) : Prop := SlAt V V.heap.size 7 A (Z.map trC) ∧ ∀ z ∈ Z, SlAt V V.heap.size 3 z.2.1 (z.2.2.2.map tuCells) ∧ z.2.2.2.length ≤ z.2.2.1 ∧ z.2.2.1 ≤ maxLen
theorem ErZ.step {V V2 : World} {A : Option Addr} {Z : List TrdZ} (h : ErZ V A Z) (hb : Below V.heap.size V V2) : ErZ V2 A Z :=
  ⟨(h.1.below hb).more hb.size, fun z hz => ⟨((h.2 z hz).1.below hb).more hb.size, (h.2 z hz).2⟩⟩
theorem erz_at {V : World} {A : Option Addr} {Z : List TrdZ} {rs : List RuT} {es : List ErT} (h : ErZ V A Z) (hZ : Z.map (fun z => (z.1, z.2.2.2)) = es.map fun x => (x, trnL rs x)) {k : Nat} (hk : k < es.length) :
    ∃ (b o : Nat) (A' : Option Addr) (c' : Nat), A = some ⟨b, o, none⟩ ∧ b < V.heap.size ∧ V.cell? ⟨b, o + k * 7, none⟩ = some (.int .i64 es[k]!.off) ∧ V.cell? ⟨b, o + k * 7 + 1, none⟩ = some (.string es[k]!.rules) ∧ V.cell? ⟨b, o + k * 7 + 2, none⟩ = some (.int .i64 es[k]!.save) ∧ V.cell? ⟨b, o + k * 7 + 3, none⟩ = some (.string es[k]!.format) ∧ V.cell? ⟨b, o + k * 7 + 4, none⟩ = some (.int .i64 es[k]!.until_) ∧ V.cell? ⟨b, o + k * 7 + 5, none⟩ = some (.slice A' (trnL rs es[k]!).length c') ∧ V.cell? ⟨b, o + k * 7 + 6, none⟩ = some (.string (fstL (trnL rs es[k]!))) ∧
      SlAt V V.heap.size 3 A' ((trnL rs es[k]!).map tuCells) ∧ (trnL rs es[k]!).length ≤ c' ∧ c' ≤ maxLen := by
  have hl : Z.length = es.length := by have := congrArg List.length hZ; simpa using this
  have hkz : k < Z.length := by omega
  have hz : (Z[k].1, Z[k].2.2.2) = (es[k], trnL rs es[k]) := by
    have h1 : (Z.map (fun z => (z.1, z.2.2.2)))[k]'(by simpa using hkz) = (es.map fun x => (x, trnL rs x))[k]'(by simpa using hk) := by simp only [hZ]
    simpa using h1
  simp only [Prod.mk.injEq] at hz
  obtain ⟨e1, e2⟩ := hz
  obtain ⟨b, o, hA, hb, hc⟩ := h.1 (by simp; omega)
  have hc0 := hc k (by simpa using hkz)
  obtain ⟨h7, h8, h9⟩ := h.2 Z[k] (List.getElem_mem hkz)
  have e : (Z.map trC).getD k [] = [.int .i64 Z[k].1.off, .string Z[k].1.rules, .int .i64 Z[k].1.save, .string Z[k].1.format, .int .i64 Z[k].1.until_, .slice Z[k].2.1 Z[k].2.2.2.length Z[k].2.2.1, .string (fstL Z[k].2.2.2)] := by simp [List.getD, hkz]; rfl
  rw [get_bang hk]
  rw [e2] at h7 h8
  rw [e, e1, e2] at hc0
  exact ⟨b, o, Z[k].2.1, Z[k].2.2.1, hA, hb, hc0 0 (by omega), hc0 1 (by omega), hc0 2 (by omega), hc0 3 (by omega), hc0 4 (by omega), hc0 5 (by omega), hc0 6 (by omega), h7, h8, h9⟩
def zA (Z : List TrdZ) (k : Nat) : Option Addr := (Z.getD k default).2.1
def zc (Z : List TrdZ) (k : Nat) : Nat := (Z.getD k default).2.2.1
theorem erz_cells {V : World} {b o : Nat} {Z : List TrdZ} {rs : List RuT} {es : List ErT} (h : ErZ V (some ⟨b, o, none⟩) Z) (hZ : Z.map (fun z => (z.1, z.2.2.2)) = es.map fun x => (x, trnL rs x)) {k : Nat} (hk : k < es.length) :
    b < V.heap.size ∧ V.cell? ⟨b, o + k * 7, none⟩ = some (.int .i64 es[k]!.off) ∧ V.cell? ⟨b, o + k * 7 + 1, none⟩ = some (.string es[k]!.rules) ∧ V.cell? ⟨b, o + k * 7 + 2, none⟩ = some (.int .i64 es[k]!.save) ∧ V.cell? ⟨b, o + k * 7 + 3, none⟩ = some (.string es[k]!.format) ∧ V.cell? ⟨b, o + k * 7 + 4, none⟩ = some (.int .i64 es[k]!.until_) ∧ V.cell? ⟨b, o + k * 7 + 5, none⟩ = some (.slice (zA Z k) (trnL rs es[k]!).length (zc Z k)) ∧ V.cell? ⟨b, o + k * 7 + 6, none⟩ = some (.string (fstL (trnL rs es[k]!))) ∧
      SlAt V V.heap.size 3 (zA Z k) ((trnL rs es[k]!).map tuCells) ∧ (trnL rs es[k]!).length ≤ zc Z k ∧ zc Z k ≤ maxLen := by
  have hl : Z.length = es.length := by have := congrArg List.length hZ; simpa using this
  have hkz : k < Z.length := by omega
  have hz : (Z[k].1, Z[k].2.2.2) = (es[k], trnL rs es[k]) := by
    have h1 : (Z.map (fun z => (z.1, z.2.2.2)))[k]'(by simpa using hkz) = (es.map fun x => (x, trnL rs x))[k]'(by simpa using hk) := by simp only [hZ]
    simpa using h1
  simp only [Prod.mk.injEq] at hz
  obtain ⟨e1, e2⟩ := hz
  obtain ⟨b', o', hA, hb, hc⟩ := h.1 (by simp; omega)
  simp only [Option.some.injEq, Addr.mk.injEq, and_true] at hA
  obtain ⟨rfl, rfl⟩ := hA
  have hc0 := hc k (by simpa using hkz)
  obtain ⟨h7, h8, h9⟩ := h.2 Z[k] (List.getElem_mem hkz)
  have e : (Z.map trC).getD k [] = [.int .i64 Z[k].1.off, .string Z[k].1.rules, .int .i64 Z[k].1.save, .string Z[k].1.format, .int .i64 Z[k].1.until_, .slice Z[k].2.1 Z[k].2.2.2.length Z[k].2.2.1, .string (fstL Z[k].2.2.2)] := by simp [List.getD, hkz]; rfl
  have hzA : zA Z k = Z[k].2.1 := by simp [zA, List.getD, hkz]
  have hzc : zc Z k = Z[k].2.2.1 := by simp [zc, List.getD, hkz]
  rw [get_bang hk, hzA, hzc]
  rw [e2] at h7 h8
  rw [e, e1, e2] at hc0
  exact ⟨hb, hc0 0 (by omega), hc0 1 (by omega), hc0 2 (by omega), hc0 3 (by omega), hc0 4 (by omega), hc0 5 (by omega), hc0 6 (by omega), h7, h8, h9⟩
theorem es_until {rs : List RuT} {zs : List ZoT} {ls : List LkT} (h : bookE rs zs ls = 0) {z : ZoT} (hz : z ∈ zs) : ∀ k, k + 1 < z.eras.length → -1099511627776 ≤ z.eras[k]!.until_ ∧ z.eras[k]!.until_ ≤ 1099511627776 := by
  obtain ⟨i, hi, rfl⟩ := List.getElem_of_mem hz
  have h1 := zoE_inv ((bookE_inv h).2.2.1 i hi)
  rw [get_bang hi] at h1
  intro k hk
  have h2 := firE_inv h1.2.2.2.2 k (by omega)
  rw [erE] at h2
  split at h2
  · rw [erE2, if_neg (by omega)] at h2
    split at h2
    · cases h2
    · rename_i h3; exact Classical.not_not.1 h3
  · rename_i h3; exact absurd h2 h3
theorem stE_bd {t : Int} (h : stE t = 0) : -11676096000 ≤ t ∧ t < 13569465600 := by
  have h1 : isTimeB t = true := by rw [isTime_st, h]; rfl
  unfold isTimeB at h1
  simpa using h1
theorem abV_size (F letter : ByteArray) (save : Int) : (abV F save letter).size ≤ 8 := by
  unfold abV
  split
  · rename_i h
    unfold abE at h
    repeat' split at h
    all_goals first | omega | (cases h; done) | skip
  · show (0 : Nat) ≤ 8; omega
theorem tT_name (rs : List RuT) (es : List ErT) (k : Nat) (t : Int) : (tT rs es k t).2.2.size ≤ maxLen := by
  have h : (tT rs es k t).2.2.size ≤ 8 := abV_size _ _ _
  unfold maxLen; omega
theorem prg_names {rs : List RuT} {es : List ErT} {F T : Int} {k0 m : Nat} : ∀ c ∈ prgL rs es F T k0 m, c.2.2.2.size ≤ maxLen := by
  intro c hc
  obtain ⟨l, hl, hc⟩ := List.mem_flatten.1 hc
  obtain ⟨j, _, rfl⟩ := List.mem_map.1 hl
  rcases List.mem_append.1 hc with hc | hc
  · unfold opK at hc
    split at hc
    · cases hc
    · rw [List.mem_singleton.1 hc]; exact tT_name _ _ _ _
  · obtain ⟨t, _, rfl⟩ := List.mem_map.1 hc
    exact tT_name _ _ _ _
/-- a row that a call leaves as it is -/
theorem own_heapK {W W2 : World} {base e size n : Nat} {v : Value} {xs : List Value} (h : W.ownsRow base e size v n xs) (hk : ∀ k, v.ownBlock = some k → W2.heap[k]? = W.heap[k]?) : W2.ownsRow base e size v n xs := by
  refine ⟨h.1, ?_⟩
  rcases h.2 with h | ⟨g, c, cur, a1, a2, a3, a4⟩
  · exact Or.inl h
  · refine Or.inr ⟨g, c, cur, a1, a2, ?_, a4⟩
    rw [hk g (by rw [a1]; rfl)]; exact a3
/-- what a call that makes a table leaves: an error, or a table -/
def TmPost (E : Int) (s : NSt) (w : World) (e : Ending) (w' : World) : Prop :=
  ∃ A C capT capC, e = .returned (.tuple #[tabV A C capT capC (if E = 0 then s.ts else []) 0 (if E = 0 then s.cs else []), .int .i64 E]) ∧ TabAt w' A C capT capC (if E = 0 then s.ts else []) (if E = 0 then s.cs else []) ∧ Below w.heap.size w w'
theorem tabAt_none (w : World) : TabAt w none none 0 0 [] [] := ⟨SlAt.none_ _ _ _ _, SlAt.none_ _ _ _ _, Nat.le_refl _, by unfold maxLen; omega, Nat.le_refl _, by unfold maxLen; omega, by simp⟩
theorem tm_bad {E : Int} {s : NSt} {w w' : World} (h0 : E ≠ 0) (hb : Below w.heap.size w w') : TmPost E s w (.returned (.tuple #[.agg #[.slice none 0 0, .int .i64 0, .slice none 0 0], .int .i64 E])) w' :=
  ⟨none, none, 0, 0, by rw [if_neg h0, if_neg h0]; rfl, by rw [if_neg h0, if_neg h0]; exact tabAt_none w', hb⟩
end Go.Proofs.YtanaoohgpdcfjaaGreatDoor
namespace Go.Proofs.YtanaoohgpdcfjaaGreatDoor
open Go.RowKit
set_option linter.unusedVariables false
attribute [local go_sem ↓] Go.wp_at_zero Go.wp_at_succ
set_option maxRecDepth 100000 in
set_option maxHeartbeats 4000000 in
theorem r_built2 (x0 : Ty) (A : Option Addr) (capA : Nat) (xs : List Int) (fid : FuncId) (p q : Value) (f : Int → Ty) (w : World) (hA : SlAt w w.heap.size 1 A (xs.map inCells)) (h1 : xs.length ≤ capA) (m1 : capA ≤ maxLen) (hl : xs.length ≤ 2000000)
    (hx0 : x0.2.2.size ≤ maxLen) (hf : ∀ a, (f a).2.2.size ≤ maxLen)
    (hcf : ∀ (W : World) (args : Array Value), (callFunc fid args).run Tryz.prog W = .ok (.enter fid args) W)
    (hof : ∀ W a, a ∈ xs → Below w.heap.size w W → Calls Tryz.prog fid #[.int .i64 a, p, q] W fun e w' => e = .returned (tyV (f a)) ∧ Below W.heap.size W w') :
    Calls Tryz.prog 52 #[tyV x0, .slice A xs.length capA, .func (.func fid) #[] #[p, q]] w (TabPost (nBuild x0 (xs.map fun a => (a, f a))) w) := by
  unfold maxLen at m1
  obtain ⟨i0, hi0, hz0, hz1, hz2⟩ := info_parts info_Type
  obtain ⟨j0, hj0, hy0, hy1, hy2⟩ := info_parts info_Change
  have hnames := Lib.hid (nBuild_all (fun t => t.2.2.size ≤ maxLen) x0 (xs.map fun a => (a, f a)) hx0 (fun c hc => by obtain ⟨a, _, rfl⟩ := List.mem_map.1 hc; exact hf a))
  have HOF := Lib.hid hof
  clear hof hf hx0
  have X2 : Bx (w.heap.size + 1) ((w.alloc (.cells (lsV x0) 37)).alloc (.cells #[.slice none 0 0, .int .i64 0, .slice none 0 0] 45)) #[.slice none 0 0, .int .i64 0, .slice none 0 0] := Bx.new' _ _ _ (by simp)
  have hB0 : Below w.heap.size w ((w.alloc (.cells (lsV x0) 37)).alloc (.cells #[.slice none 0 0, .int .i64 0, .slice none 0 0] 45)) := (by repeat (first | exact Below.refl _ _ | assumption | apply Below.drew | apply below_drewN | (refine Below.alloc ?_ (by simp; try omega) _) | (refine Below.setCell ?_ (by simp; try omega) _)))
  have hz0' : ((w.alloc (.cells (lsV x0) 37)).alloc (.cells #[.slice none 0 0, .int .i64 0, .slice none 0 0] 45)).heap.size = w.heap.size + 1 + 1 := by simp
  have hS : BtC ((((w.alloc (.cells (lsV x0) 37)).alloc (.cells #[.slice none 0 0, .int .i64 0, .slice none 0 0] 45)).alloc (.cells (lsV x0) 37)).alloc (.cells (btV (.slice (some ⟨w.heap.size + 1 + 1, 0, none⟩) 1 1) (.slice none 0 0)) 45) |>.alloc (.cells (lsV x0) 37))
      (w.heap.size + 1 + 1) (w.heap.size + 1 + 1 + 1) (w.heap.size + 1 + 1 + 1 + 1) (.slice (some ⟨w.heap.size + 1 + 1, 0, none⟩) 1 1) (.slice none 0 0) (nBegin x0) := by
    refine ⟨by omega, by omega, Blk.alloc (Blk.new' _ _ _ (by simp)) _, Blk.new' _ _ _ (by simp), ?_, World.ownsRow_nil _ _ _ _, by simp [Value.ownBlock]⟩
    exact ⟨rfl, Or.inr ⟨w.heap.size + 1 + 1, 1, _, rfl, by omega, Blk.alloc (Blk.alloc (Blk.new' _ _ _ (by simp)) _) _, by simp [nBegin], by unfold maxLen; omega, by simp, by simp [nBegin, tyCells]⟩⟩
  have HS := Lib.hid hS
  have HX2 := Lib.hid X2
  have HB0 := Lib.hid hB0
  have HZ0 := Lib.hid hz0'
  clear hS X2 hB0 hz0'
  go_enter Tryz.func52, Tryz.ntmps52
  go_wp2_with fail
  have HBB := Lib.hid (show Below (w.heap.size + 1 + 1) ((w.alloc (.cells (lsV x0) 37)).alloc (.cells #[.slice none 0 0, .int .i64 0, .slice none 0 0] 45)) ((((w.alloc (.cells (lsV x0) 37)).alloc (.cells #[.slice none 0 0, .int .i64 0, .slice none 0 0] 45)).alloc (.cells (lsV x0) 37)).alloc (.cells (btV (.slice (some ⟨w.heap.size + 1 + 1, 0, none⟩) 1 1) (.slice none 0 0)) 45) |>.alloc (.cells (lsV x0) 37)) from (by repeat (first | exact Below.refl _ _ | assumption | apply Below.drew | apply below_drewN | (refine Below.alloc ?_ (by simp; try omega) _) | (refine Below.setCell ?_ (by simp; try omega) _))))
  revert HX2 HB0 HZ0 HBB
  generalize hW0 : (w.alloc (.cells (lsV x0) 37)).alloc (.cells #[.slice none 0 0, .int .i64 0, .slice none 0 0] 45) = W0
  intro HX2 HB0 HZ0 HBB
  subst hW0
  go_loopw [19] (fun i wr => ∃ k : Nat, k ≤ xs.length ∧ i = .int .i64 k ∧ ∃ T C, BtC wr (w.heap.size + 1 + 1) (w.heap.size + 1 + 1 + 1) (w.heap.size + 1 + 1 + 1 + 1) T C (nBuild x0 ((xs.map fun a => (a, f a)).take k)) ∧ Below (w.heap.size + 1 + 1) ((w.alloc (.cells (lsV x0) 37)).alloc (.cells #[.slice none 0 0, .int .i64 0, .slice none 0 0] 45)) wr) (fun i _ => xs.length - (intOf i).toNat)
  case atStart => exact ⟨0, Nat.zero_le _, rfl, _, _, HS.out, HBB.out⟩
  case round =>
    clear HS HBB
    revert HX2 HB0 HZ0
    generalize (w.alloc (.cells (lsV x0) 37)).alloc (.cells #[.slice none 0 0, .int .i64 0, .slice none 0 0] 45) = W0 at *
    intro HX2 HB0 HZ0
    obtain ⟨k, hk, rfl, T, C, hM, hbr⟩ := hrel
    have HM := Lib.hid hM
    have HR := Lib.hid hbr
    have hwr := hM.lst.lt
    by_cases hlt : k < xs.length
    · obtain ⟨b, o, rfl, hb, c0⟩ := in_at (hA.below (HB0.out.trans (hbr.mono (by rw [← HZ0.out]; exact HB0.out.size)))) hlt
      have hax := List.getElem_mem hlt
      obtain ⟨a, ha⟩ : ∃ a, xs[k] = a := ⟨_, rfl⟩
      rw [ha] at c0 hax
      go_wp2_with fail
      refine (HOF.out wr a hax (HB0.out.trans (hbr.mono (by rw [← HZ0.out]; exact HB0.out.size)))).mono ?_
      rintro e w1 ⟨rfl, hb1⟩
      have hM1 := hM.step hb1
      obtain ⟨y, hy⟩ : ∃ y, f a = y := ⟨_, rfl⟩
      rw [hy]
      have HT := Lib.hid (show nBuild x0 ((xs.map fun a => (a, f a)).take (k + 1)) = nStep (nBuild x0 ((xs.map fun a => (a, f a)).take k)) a y by
        have e := nBuild_take x0 (xs.map fun a => (a, f a)) k (by simpa using hlt)
        rw [List.getElem_map, ha] at e
        rw [← hy]; exact e)
      have hn2 := nBuild_len x0 ((xs.map fun a => (a, f a)).take k)
      rw [List.length_take, List.length_map] at hn2
      have hl1 : (nBuild x0 ((xs.map fun a => (a, f a)).take k)).ts.length ≤ 1000000000 := by omega
      have hl2 : (nBuild x0 ((xs.map fun a => (a, f a)).take k)).cs.length ≤ 1000000000 := by omega
      obtain ⟨s, hs⟩ : ∃ s, nBuild x0 ((xs.map fun a => (a, f a)).take k) = s := ⟨_, rfl⟩
      rw [hs] at hl1 hl2 hM1 HT
      clear hM HM hs hn2 ha hy c0 hax
      have hl3 := hM1.lst.cell
      have hwz1 : w.heap.size + 1 + 1 + 1 + 1 < w1.heap.size := hM1.lst.lt
      have hBr1 := hbr.trans (hb1.mono (by omega))
      clear hbr HR hb1
      by_cases he : y = s.last
      · have heq := run_eq_ty y s.last
        rw [decide_eq_true he] at heq
        go_wp2_with fail
        exact ⟨⟨k + 1, by omega, by go_num, T, C, by rw [HT.out, nStep_same he]; exact hM1.alloc _, hBr1.alloc (by omega) _⟩, by simp [intOf]; omega⟩
      · have heq := run_eq_ty y s.last
        rw [decide_eq_false he] at heq
        go_wp2_with fail
        clear heq hl3
        have hM2 := hM1.alloc (.cells (lsV y) 37)
        have hX2 := Blk.new w1 (lsV y) 37
        have hBr2 := hBr1.alloc (by omega) (.cells (lsV y) 37)
        have hTC : T.ownBlock ≠ some w1.heap.size ∧ C.ownBlock ≠ some w1.heap.size := ⟨fun e => absurd (hM1.hT.lt _ e).2 (by omega), fun e => absurd (hM1.hC.lt _ e).2 (by omega)⟩
        obtain ⟨A', cap', rfl, g1, g2, hAx⟩ := own_at (xss := s.ts.map tyCells) (by simpa using hM1.hT) (by intro xs hx; obtain ⟨t, _, rfl⟩ := List.mem_map.1 hx; rfl)
        rw [List.length_map] at *
        unfold maxLen at g2
        have HE := Lib.hid he
        clear hM1 hBr1 he hAx
        revert hM2 hX2 hBr2
        generalize w1.alloc (.cells (lsV y) 37) = W2
        intro hX2 hBr2 hM2
        go_loopw [12] (fun kk wi => ∃ j : Nat, j ≤ s.ts.length ∧ kk = .int .i64 j ∧ (∀ i (hi : i < s.ts.length), i < j → ¬ y = s.ts[i]) ∧ BtC wi (w.heap.size + 1 + 1) (w.heap.size + 1 + 1 + 1) (w.heap.size + 1 + 1 + 1 + 1) (.slice A' s.ts.length cap') C s ∧ Blk wi w1.heap.size 37 (lsV y) ∧ Below (w.heap.size + 1 + 1) W0 wi) (fun kk _ => s.ts.length - (intOf kk).toNat)
        case atStart => exact ⟨0, Nat.zero_le _, rfl, fun i _ h => absurd h (by omega), hM2, hX2, hBr2⟩
        case round =>
          clear hM2 hX2 hBr2
          obtain ⟨j, hj, rfl, hn, hM3, hX3, hBr3⟩ := hrel
          have HN := Lib.hid hn
          clear hn
          have x3 := hX3.cell
          have x4 := hM3.blk.cell
          by_cases hjl : j < s.ts.length
          · obtain ⟨A2, cap2, he2, _, _, hA2⟩ := own_at (xss := s.ts.map tyCells) (by simpa using hM3.hT) (by intro xs hx; obtain ⟨t, _, rfl⟩ := List.mem_map.1 hx; rfl)
            simp only [List.length_map] at he2
            cases he2
            obtain ⟨bt, ot, rfl, hbt, c0, c1, c2⟩ := ty_at hA2 hjl
            have hi1 : (0 : Int) ≤ (j : Int) := by omega
            have hi2 : (j : Int) < (s.ts.length : Int) := by omega
            obtain ⟨z, hz⟩ : ∃ z, s.ts[j] = z := ⟨_, rfl⟩
            rw [hz] at c0 c1 c2
            by_cases hzy : z = y
            · have hnum := numTy_at s.ts y j hjl HN.out (hzy.symm.trans hz.symm)
              have hold : addTy s.ts y = s.ts := addTy_old (by rw [← hzy, ← hz]; exact List.getElem_mem hjl)
              have HF := Lib.hid (And.intro hold hnum)
              have heq := run_eq_ty z y
              rw [decide_eq_true hzy] at heq
              have hne : ((j : Int) == (s.ts.length : Int)) = false := by rw [beq_eq_false_iff_ne]; omega
              clear hz hnum hold
              have HM3 := Lib.hid hM3
              have HX3 := Lib.hid hX3
              have HB3 := Lib.hid hBr3
              clear hM3 hX3 hBr3 hA2 hzy
              go_wp2_with fail
              go_quiet (fail)
              rename_i nq
              have hM3 := HM3.out.drewN nq
              have hX3 := HX3.out.drewN nq
              have hBr3 := below_drewN HB3.out nq
              clear c0 c1 c2 x3 x4 HM3 HX3 HB3 heq
              revert hM3 hX3 hBr3
              generalize wr.drewN nq = wv
              intro hM3 hX3 hBr3
              have hC3 := Lib.hid hM3
              have hX4 := Lib.hid hX3
              have hB4 := Lib.hid hBr3
              have z1 := hM3.blk.cell
              have z2 := hM3.blk.lt
              have z3 := hM3.lt
              clear hM3 hX3 hBr3
              go_wp2_with (at_builtin; refine wpList_append_lies _ rfl _ _ _ rfl (w.heap.size + 1 + 1) 69 j0 _ 2 16 Tryz.underlying43 hj0 hy0 hy1 hy2 rfl (by omega) C s.cs.length _ rfl (hC3.out.hC.alloc _) ⟨wv.heap.size, 0, none⟩ 1 1 (chCells (a, (j : Int))) rfl rfl (World.news_of_block (cs := (chCells (a, (j : Int))).toArray) (t := 69) (fr := (0, 0)) (heap_alloc_new wv _)) (by simp [Value.oneCell', chCells]) (by omega) (by unfold maxLen; omega) (by omega) (by simp; omega) (wv.heap.size + 1) (by simp) ?_; intro gc cc w7 hown7 hgrow7 hat7 hlt7; have hm7 := Blk.grown' hgrow7 (hC3.out.blk.alloc _) (hC3.out.blk.own_ne hC3.out.hC (by decide)); have y7 := hm7.cell 2; have y7' := hm7.frz 2; have hx7 := Blk.far (a := ⟨w.heap.size + 1 + 1 + 1, 2, none⟩) (Blk.grown' hgrow7 (hX4.out.alloc _) hTC.2) (by simp; omega) (.slice (some ⟨gc, 0, none⟩) (s.cs.length + 1) cc); have hx7c := hx7.cell; have hl7 := ((bt_app_C (c := (a, (j : Int))) (hC3.out.alloc _) hgrow7 hown7).1.lst).cell; have hl8 := ((bt_app_C (c := (a, (j : Int))) (hC3.out.alloc _) hgrow7 hown7).1.lst).frz; clear hm7)
              have K := bt_app_C (c := (a, (j : Int))) (hC3.out.alloc (.cells #[.int .i64 a, .int .i64 (j : Int)] 69)) hgrow7 hown7
              have L := bt_last (x := y) K.1
              exact ⟨⟨k + 1, by omega, by go_num, _, _, by rw [HT.out, nStep_other HE.out, HF.out.1, HF.out.2]; exact L.1, ((hB4.out.alloc z3 _).trans K.2).trans L.2⟩, by simp [intOf]; omega⟩
            · have heq := run_eq_ty z y
              rw [decide_eq_false hzy] at heq
              have HZ := Lib.hid (fun i (hi : i < s.ts.length) (h : i < j + 1) => (show ¬ y = s.ts[i] from fun e => if h2 : i < j then HN.out i hi h2 e else (by obtain rfl : i = j := (by omega); exact hzy (hz.symm.trans e.symm))))
              clear hz
              have HM3 := Lib.hid hM3
              have HX3 := Lib.hid hX3
              have HB3 := Lib.hid hBr3
              clear hM3 hX3 hBr3 hA2
              go_wp2_with fail
              go_quiet (fail)
              go_wp2_with fail
              exact ⟨⟨j + 1, by omega, by go_num, HZ.out, HM3.out.drewN _, HX3.out.drewN _, below_drewN HB3.out _⟩, by simp [intOf]; omega⟩
          · obtain rfl : j = s.ts.length := by omega
            have hnm : ¬ y ∈ s.ts := fun hm => by obtain ⟨i, hi, e⟩ := List.mem_iff_getElem.1 hm; exact HN.out i hi hi e.symm
            have HF := Lib.hid (And.intro (addTy_new hnm) (numTy_none hnm))
            clear hnm
            have hdd : decide ((s.ts.length : Int) < (s.ts.length : Int)) = false := by simp
            have HM3 := Lib.hid hM3
            have HX3 := Lib.hid hX3
            have HB3 := Lib.hid hBr3
            clear hM3 hX3 hBr3
            go_wp2_with fail
            go_quiet (fail)
            rename_i nq
            have hM3 := HM3.out.drewN nq
            have hX3 := HX3.out.drewN nq
            have hBr3 := below_drewN HB3.out nq
            clear x3 x4 HM3 HX3 HB3
            revert hM3 hX3 hBr3
            generalize wr.drewN nq = wu
            intro hM3 hX3 hBr3
            have hM5 := Lib.hid hM3
            have hX5 := Lib.hid hX3
            have hB5 := Lib.hid hBr3
            have z1 := hM3.blk.cell
            have z2 := hM3.blk.lt
            have z3 := hM3.lt
            have z4 := hX3.cell
            clear hM3 hX3 hBr3
            go_upto_region 13 with (at_builtin; refine wpList_append_lies _ rfl _ _ _ rfl (w.heap.size + 1 + 1) 37 i0 _ 3 32 Tryz.underlying42 hi0 hz0 hz1 hz2 rfl (by omega) (.slice A' s.ts.length cap') s.ts.length _ rfl (hM5.out.hT.alloc _) ⟨wu.heap.size, 0, none⟩ 1 1 (tyCells y) rfl rfl (World.news_of_block (cs := (tyCells y).toArray) (t := 37) (fr := (0, 0)) (heap_alloc_new wu _)) (by simp [Value.oneCell', tyCells]) (by omega) (by unfold maxLen; omega) (by omega) (by simp; omega) (wu.heap.size + 1) (by simp) ?_; intro gt ct w6 hown6 hgrow6 hat6 hlt6; have hm6 := Blk.grown' hgrow6 (hM5.out.blk.alloc _) (hM5.out.blk.own_ne hM5.out.hT (by decide)); have y6 := hm6.cell 0; have y6' := hm6.frz 0; clear hm6)
            have K6 := bt_app_T (x := y) (hM5.out.alloc (.cells (lsV y) 37)) hgrow6 hown6 hat6 (by have := hM5.out.lst.lt; omega)
            have hM3 := K6.1
            have hTx : (Value.slice A' s.ts.length cap').ownBlock ≠ some w1.heap.size := hTC.1
            have hX3 := Blk.far (a := ⟨w.heap.size + 1 + 1 + 1, 0, none⟩) (Blk.grown' hgrow6 (hX5.out.alloc _) hTx) (by simp; omega) (.slice (some ⟨gt, 0, none⟩) (s.ts.length + 1) ct)
            have hBr3 := (hB5.out.alloc z3 (.cells (lsV y) 37)).trans K6.2
            clear K6 y6 y6' hown6 hgrow6 hat6 hlt6 z1 z2 z3 z4
            revert hM3 hX3 hBr3
            generalize w6.setCell ⟨w.heap.size + 1 + 1 + 1, 0, none⟩ (.slice (some ⟨gt, 0, none⟩) (s.ts.length + 1) ct) = wv
            intro hM3 hX3 hBr3
            have hC3 := Lib.hid hM3
            have hX4 := Lib.hid hX3
            have hB4 := Lib.hid hBr3
            have z1 := hM3.blk.cell
            have z2 := hM3.blk.lt
            have z3 := hM3.lt
            clear hM3 hX3 hBr3
            go_wp2_with (at_builtin; refine wpList_append_lies _ rfl _ _ _ rfl (w.heap.size + 1 + 1) 69 j0 _ 2 16 Tryz.underlying43 hj0 hy0 hy1 hy2 rfl (by omega) C s.cs.length _ rfl (hC3.out.hC.alloc _) ⟨wv.heap.size, 0, none⟩ 1 1 (chCells (a, (s.ts.length : Int))) rfl rfl (World.news_of_block (cs := (chCells (a, (s.ts.length : Int))).toArray) (t := 69) (fr := (0, 0)) (heap_alloc_new wv _)) (by simp [Value.oneCell', chCells]) (by omega) (by unfold maxLen; omega) (by omega) (by simp; omega) (wv.heap.size + 1) (by simp) ?_; intro gc cc w7 hown7 hgrow7 hat7 hlt7; have hm7 := Blk.grown' hgrow7 (hC3.out.blk.alloc _) (hC3.out.blk.own_ne hC3.out.hC (by decide)); have y7 := hm7.cell 2; have y7' := hm7.frz 2; have hx7 := Blk.far (a := ⟨w.heap.size + 1 + 1 + 1, 2, none⟩) (Blk.grown' hgrow7 (hX4.out.alloc _) hTC.2) (by simp; omega) (.slice (some ⟨gc, 0, none⟩) (s.cs.length + 1) cc); have hx7c := hx7.cell; have hl7 := ((bt_app_C (c := (a, (s.ts.length : Int))) (hC3.out.alloc _) hgrow7 hown7).1.lst).cell; have hl8 := ((bt_app_C (c := (a, (s.ts.length : Int))) (hC3.out.alloc _) hgrow7 hown7).1.lst).frz; clear hm7)
            have K := bt_app_C (c := (a, (s.ts.length : Int))) (hC3.out.alloc (.cells #[.int .i64 a, .int .i64 (s.ts.length : Int)] 69)) hgrow7 hown7
            have L := bt_last (x := y) K.1
            exact ⟨⟨k + 1, by omega, by go_num, _, _, by rw [HT.out, nStep_other HE.out, HF.out.1, HF.out.2]; exact L.1, ((hB4.out.alloc z3 _).trans K.2).trans L.2⟩, by simp [intOf]; omega⟩
    · obtain rfl : k = xs.length := by omega
      rw [List.take_of_length_le (by simp)] at hM
      obtain ⟨A', capT, A2, capC, rfl, rfl, HT, ha1, ha2⟩ := bt_tab hM hnames.out
      obtain ⟨s, hs⟩ : ∃ s, nBuild x0 (xs.map fun a => (a, f a)) = s := ⟨_, rfl⟩
      rw [hs] at hM HT
      have HS := Lib.hid hs
      clear hs
      have hx2 := HX2.out.step (hbr.mono (by rw [HZ0.out]; exact Nat.le_refl _))
      have z1 := hM.blk.cell
      have z2 := hx2.1
      have z3 := hx2.2.1
      have z4 := hx2.2.2
      have hB3 := HB0.out.trans (hbr.mono (by omega))
      have hHT := Lib.hid (((HT.far (g := w.heap.size + 1) (i := 0) ha1 ha2 (by omega) (.slice A' s.ts.length capT)).far (g := w.heap.size + 1) (i := 1) ha1 ha2 (by omega) (.int .i64 0)).far (g := w.heap.size + 1) (i := 2) ha1 ha2 (by omega) (.slice A2 s.cs.length capC))
      have hab1 := Lib.hid (ha1.mono (show w.heap.size ≤ w.heap.size + 1 + 1 by omega))
      have hab2 := Lib.hid (ha2.mono (show w.heap.size ≤ w.heap.size + 1 + 1 by omega))
      clear hM HM hbr HR ha1 ha2 HT hx2
      go_wp2_with fail
      obtain ⟨q0, q1, q2⟩ := cells3 (W := wr) (g := w.heap.size + 1) (x := .slice A' s.ts.length capT) (y := .int .i64 0) (z := .slice A2 s.cs.length capC) (z2 0) (z2 1) (z2 2)
      exact bodyPost_ret (v := .agg #[.slice A' s.ts.length capT, .int .i64 0, .slice A2 s.cs.length capC]) (by simp [results, Tryz.results52, go_sem, q0, q1, q2]) rfl ⟨A', A2, capT, capC, by rw [HS.out], by rw [HS.out]; exact hHT.out, hab1.out, hab2.out, below3 hB3 (by omega)⟩
end Go.Proofs.YtanaoohgpdcfjaaGreatDoor
namespace Go.Proofs.YtanaoohgpdcfjaaGreatDoor
open Go.RowKit
set_option linter.unusedVariables false
set_option linter.unusedSimpArgs false
attribute [local go_sem ↓] Go.wp_at_zero Go.wp_at_succ
/-- an era's turns, and where they lie -/
abbrev TsZ := Option Addr × Nat × List TuT
def tsV (x : TsZ) : Value := .slice x.1 x.2.2.length x.2.1
def TsOk (V : World) (G : Nat) (L : List TsZ) : Prop := ∀ x ∈ L, SlAt V V.heap.size 3 x.1 (x.2.2.map tuCells) ∧ x.2.2.length ≤ x.2.1 ∧ x.2.1 ≤ maxLen ∧ Above (G + 1) x.1
theorem TsOk.step {V V2 : World} {G : Nat} {L : List TsZ} (h : TsOk V G L) (hb : Below V.heap.size V V2) : TsOk V2 G L := fun x hx => ⟨((h x hx).1.below hb).more hb.size, (h x hx).2⟩
structure TsW (V : World) (G gt N : Nat) (L : List TsZ) : Prop where
  bk : Blk V G 27 (L.map tsV).toArray
  bt : Blk V gt 108 #[.slice (some ⟨G, 0, none⟩) N N]
  ok : TsOk V G L
  ln : L.length = N
theorem TsW.step {V V2 : World} {G gt N : Nat} {L : List TsZ} (h : TsW V G gt N L) (hb : Below V.heap.size V V2) : TsW V2 G gt N L := ⟨h.bk.step hb, h.bt.step hb, h.ok.step hb, h.ln⟩
theorem TsW.at {V : World} {G gt N : Nat} {L : List TsZ} (h : TsW V G gt N L) {k : Nat} (hk : k < N) : V.cell? ⟨G, k, none⟩ = some (tsV (L.getD k default)) := by
  have hk2 : k < L.length := by rw [h.ln]; exact hk
  rw [h.bk.cell k]
  simp [List.getD, hk2]
theorem TsW.sl {V : World} {G gt N : Nat} {L : List TsZ} (h : TsW V G gt N L) {k : Nat} (hk : k < N) : SlAt V V.heap.size 3 (L.getD k default).1 ((L.getD k default).2.2.map tuCells) ∧ (L.getD k default).2.2.length ≤ (L.getD k default).2.1 ∧ (L.getD k default).2.1 ≤ maxLen := by
  have hk2 : k < L.length := by rw [h.ln]; exact hk
  have e : L.getD k default = L[k] := by simp [List.getD, hk2]
  have h1 := h.ok _ (List.getElem_mem hk2)
  rw [e]; exact ⟨h1.1, h1.2.1, h1.2.2.1⟩
theorem TsW.lt {V : World} {G gt N : Nat} {L : List TsZ} (h : TsW V G gt N L) : G ≠ gt := h.bk.ne h.bt (by decide)
theorem TsW.new (V : World) (N : Nat) : TsW ((V.alloc (.cells (Array.replicate N (.slice none 0 0)) 27)).alloc (.cells #[.slice (some ⟨V.heap.size, 0, none⟩) N N] 108)) V.heap.size (V.heap.size + 1) N (List.replicate N default) := by
  refine ⟨?_, Blk.new' _ _ _ (by simp), ?_, by simp⟩
  · have e : ((List.replicate N (default : TsZ)).map tsV).toArray = Array.replicate N (.slice none 0 0) := by
      rw [List.map_replicate]; rw [List.toArray_replicate]; rfl
    rw [e]
    exact (Blk.new V _ _).alloc _
  · intro x hx
    obtain ⟨_, rfl⟩ := List.mem_replicate.1 hx
    exact ⟨SlAt.none_ _ _ _ _, Nat.le_refl _, Nat.zero_le _, fun a e => by cases e⟩
/-- an era's turns are stored -/
theorem TsW.set {V : World} {G gt N k : Nat} {L : List TsZ} (h : TsW V G gt N L) {y : TsZ} (hy : SlAt V V.heap.size 3 y.1 (y.2.2.map tuCells) ∧ y.2.2.length ≤ y.2.1 ∧ y.2.1 ≤ maxLen ∧ Above (G + 1) y.1) : TsW (V.setCell ⟨G, k, none⟩ (tsV y)) G gt N (L.set k y) := by
  refine ⟨?_, h.bt.far (a := ⟨G, k, none⟩) h.lt.symm _, ?_, by rw [List.length_set]; exact h.ln⟩
  · have := h.bk.set k (tsV y)
    rw [List.map_set]
    simpa using this
  · intro x hx
    rcases List.mem_or_eq_of_mem_set hx with hx | rfl
    · obtain ⟨a, b, c, d⟩ := h.ok x hx
      exact ⟨a.far d (Nat.lt_succ_self _) _, b, c, d⟩
    · exact ⟨hy.1.far hy.2.2.2 (Nat.lt_succ_self _) _, hy.2⟩
/-- the turns of the eras ahead are laid -/
def LkP (rs : List RuT) (es : List ErT) (k : Nat) (L : List TsZ) : Prop := (∀ j, j < k → (L.getD j default).2.2 = trnL rs es[j]! ∧ trnE rs es[j]! = 0) ∧ ∀ j, k ≤ j → L.getD j default = default
theorem lk_zero (rs : List RuT) (es : List ErT) (N : Nat) : LkP rs es 0 (List.replicate N default) := ⟨fun j h => absurd h (by omega), fun j _ => by simp [List.getD, List.getElem?_replicate]; split <;> rfl⟩
theorem lk_none {rs : List RuT} {es : List ErT} {k : Nat} {L : List TsZ} (h : LkP rs es k L) (h0 : trnE rs es[k]! = 0 ∧ trnL rs es[k]! = []) : LkP rs es (k + 1) L := by
  refine ⟨fun j hj => ?_, fun j hj => h.2 j (by omega)⟩
  by_cases e : j = k
  · rw [e, h.2 k (Nat.le_refl _), h0.2]; exact ⟨rfl, h0.1⟩
  · exact h.1 j (by omega)
theorem lk_set {rs : List RuT} {es : List ErT} {k : Nat} {L : List TsZ} (h : LkP rs es k L) (hk : k < L.length) {y : TsZ} (hy : y.2.2 = trnL rs es[k]!) (h0 : trnE rs es[k]! = 0) : LkP rs es (k + 1) (L.set k y) := by
  refine ⟨fun j hj => ?_, fun j hj => ?_⟩
  · by_cases e : j = k
    · subst e
      have e2 : (L.set j y).getD j default = y := by simp [List.getD, hk]
      rw [e2]; exact ⟨hy, h0⟩
    · have e2 : (L.set k y).getD j default = L.getD j default := by simp [List.getD, List.getElem?_set, Ne.symm e]
      rw [e2]; exact h.1 j (by omega)
  · have e2 : (L.set k y).getD j default = L.getD j default := by simp [List.getD, List.getElem?_set, show ¬ k = j by omega]
    rw [e2]; exact h.2 j (by omega)
theorem lk_all {rs : List RuT} {es : List ErT} {L : List TsZ} (h : LkP rs es es.length L) : ersE rs es = 0 ∧ ∀ k, k < es.length → (L.getD k default).2.2 = trnL rs es[k]! := ⟨firE_zero (fun j hj => (h.1 j hj).2), fun k hk => (h.1 k hk).1⟩
theorem lk_bad {rs : List RuT} {es : List ErT} {k : Nat} {L : List TsZ} (h : LkP rs es k L) (hk : k < es.length) (h0 : trnE rs es[k]! ≠ 0) : ersE rs es = trnE rs es[k]! := firE_at (f := fun k => trnE rs es[k]!) (fun j hj => (h.1 j hj).2) h0 hk
theorem made_one (v : Value) (N : Nat) : madeCells #[v] (N * 1) = Array.replicate N v := by
  apply Array.ext
  · simp [madeCells]
  · intro i h1 h2
    simp [madeCells, Nat.mod_one]
theorem info_TuSl : (Tryz.prog.info? 27).map (fun i => (i.zero, i.size, i.bytes)) = some (some (.slice none 0 0), 1, 24) := by kernel_rfl
set_option maxRecDepth 100000 in
theorem call_of (W : World) (args : Array Value) : (callFunc 51 args).run Tryz.prog W = .ok (.enter 51 args) W := by rfl
set_option maxRecDepth 100000 in
set_option maxHeartbeats 1000000 in
theorem r_of (nz : ByteArray) (A : Option Addr) (c : Nat) (rs : List RuT) (es : List ErT) (G gz gt : Nat) (L : List TsZ) (t : Int) (V : World) (hz : Blk V gz 74 #[.string nz, .slice A es.length c]) (hA : SlAt V V.heap.size 5 A (es.map erC)) (hc : es.length ≤ c) (hm : c ≤ maxLen) (h0 : 0 < es.length) (hs : ErSorted es) (hW : TsW V G gt es.length L)
    (hL : ∀ k, k < es.length → (L.getD k default).2.2 = trnL rs es[k]!)
    (hT : ∀ k, k < es.length → ∀ (A : Option Addr) (c : Nat) (W : World), SlAt W W.heap.size 3 A ((trnL rs es[k]!).map tuCells) → (trnL rs es[k]!).length ≤ c → c ≤ maxLen → Calls Tryz.prog 46 #[.agg #[.int .i64 es[k]!.off, .string es[k]!.rules, .int .i64 es[k]!.save, .string es[k]!.format, .int .i64 es[k]!.until_], .slice A (trnL rs es[k]!).length c, .int .i64 t] W fun e w' => e = .returned (tyV (tT rs es k t)) ∧ Below W.heap.size W w') :
    Calls Tryz.prog 51 #[.int .i64 t, .pointer (some ⟨gz, 0, none⟩), .pointer (some ⟨gt, 0, none⟩)] V fun e w' => e = .returned (tyV (fT rs es t)) ∧ Below V.heap.size V w' := by
  have hKI := (eraI_spec hs t).1
  have HCE := Lib.hid (fun (W : World) (hb : Below V.heap.size V W) => r_eraAt nz A c es t W ((hA.below hb).more hb.size) hc hm h0 hs)
  have HX0 := Lib.hid (fun (k : Nat) (hk : k < es.length) (W : World) (hb : Below V.heap.size V W) => er_at (hA.below hb) hk)
  have HF := Lib.hid (show fT rs es t = tT rs es (eraI es t) t from rfl)
  obtain ⟨b0, o0, hA0⟩ : ∃ b o, A = some ⟨b, o, none⟩ := by obtain ⟨b, o, h, _⟩ := hA (by simpa using h0); exact ⟨b, o, h⟩
  subst hA0
  obtain ⟨KI, hKe⟩ : ∃ KI, eraI es t = KI := ⟨_, rfl⟩
  rw [hKe] at hKI HCE HF
  have hKI2 : KI < es.length := by omega
  have HTt := Lib.hid (hT KI hKI2)
  have HL := Lib.hid (hL KI hKI2)
  have HX := Lib.hid (fun (W : World) (hb : Below V.heap.size V W) => (show W.cell? ⟨b0, o0 + KI * 5, none⟩ = some (.int .i64 es[KI]!.off) ∧ W.cell? ⟨b0, o0 + KI * 5 + 1, none⟩ = some (.string es[KI]!.rules) ∧ W.cell? ⟨b0, o0 + KI * 5 + 2, none⟩ = some (.int .i64 es[KI]!.save) ∧ W.cell? ⟨b0, o0 + KI * 5 + 3, none⟩ = some (.string es[KI]!.format) ∧ W.cell? ⟨b0, o0 + KI * 5 + 4, none⟩ = some (.int .i64 es[KI]!.until_) from by
    obtain ⟨b, o, e, _, c0, c1, c2, c3, c4⟩ := HX0.out KI hKI2 W hb
    simp only [Option.some.injEq, Addr.mk.injEq, and_true] at e
    obtain ⟨rfl, rfl⟩ := e
    rw [get_bang hKI2]
    exact ⟨c0, c1, c2, c3, c4⟩))
  have HCT := Lib.hid (fun (W : World) (hb : Below V.heap.size V W) => (show Calls Tryz.prog 46 #[.agg #[.int .i64 es[KI]!.off, .string es[KI]!.rules, .int .i64 es[KI]!.save, .string es[KI]!.format, .int .i64 es[KI]!.until_], .slice (L.getD KI default).1 (trnL rs es[KI]!).length (L.getD KI default).2.1, .int .i64 t] W fun e w' => e = .returned (tyV (tT rs es KI t)) ∧ Below W.heap.size W w' from by
    have h2 := (hW.step hb).sl hKI2
    rw [HL.out] at h2
    exact HTt.out _ _ W h2.1 h2.2.1 h2.2.2))
  have HW := Lib.hid hW
  have HLt := Lib.hid (show tsV (L.getD KI default) = .slice (L.getD KI default).1 (trnL rs es[KI]!).length (L.getD KI default).2.1 by unfold tsV; rw [HL.out])
  obtain ⟨x, hx⟩ : ∃ x, es[KI]! = x := ⟨_, rfl⟩
  obtain ⟨ty, hty⟩ : ∃ ty, tT rs es KI t = ty := ⟨_, rfl⟩
  rw [hx] at HX HCT HLt
  rw [hty] at HCT HF
  obtain ⟨a1, ha1⟩ : ∃ a1, (L.getD KI default).1 = a1 := ⟨_, rfl⟩
  obtain ⟨d1, hd1⟩ : ∃ d1, (L.getD KI default).2.1 = d1 := ⟨_, rfl⟩
  obtain ⟨L1, hL1⟩ : ∃ L1, (trnL rs x).length = L1 := ⟨_, rfl⟩
  rw [ha1, hd1, hL1] at HCT HLt
  obtain ⟨N, hN⟩ : ∃ N, es.length = N := ⟨_, rfl⟩
  rw [hN] at hz hKI2 HW HCE
  have hcN : N ≤ c := by omega
  have HZ := Lib.hid hz
  unfold maxLen at hm
  clear hx hty ha1 hd1 hL1 HL HTt hT hL hW hz hA hc h0 hs HX0 hKe hKI hN
  have hb1 := (Below.refl V.heap.size V).alloc (Nat.le_refl _) (.cells #[.int .i64 0, .bool false, .string ⟨#[]⟩] 37)
  have k1 := Blk.new V #[.int .i64 0, .bool false, .string ⟨#[]⟩] 37
  obtain ⟨W, hWe⟩ : ∃ W, V.alloc (.cells #[.int .i64 0, .bool false, .string ⟨#[]⟩] 37) = W := ⟨_, rfl⟩
  rw [hWe] at hb1 k1
  have HB := Lib.hid hb1
  have HT := Lib.hid k1
  clear hb1 k1
  have zc := (HZ.out.step HB.out).cell
  have zl := (HZ.out.step HB.out).lt
  have hCE := HCE.out W HB.out
  go_enter Tryz.func51, Tryz.ntmps51
  go_upto_region 2 with (first | (go_at_call 45; refine hCE.mono ?_; rintro e V2 ⟨rfl, hb2⟩; replace HT := Lib.hid (HT.out.step hb2); replace HB := Lib.hid (HB.out.trans (hb2.mono HB.out.size))))
  clear zc zl hCE HCE hb2 hWe
  have hi1 : (0 : Int) ≤ (KI : Int) := by omega
  have hi2 : (KI : Int) < (N : Int) := by omega
  refine wp_region_noPanic ?_
  refine wp_region_held_drew (S := fun W' : World => Below V.heap.size V W') (by kernel_rfl) HB.out.drew (fun hHeld0 => ?_)
  have hHeld := hHeld0
  clear hHeld0
  refine wpAnyH_take (i := 0) (v := ?_) rfl (by kernel_rfl) (by kernel_rfl) (by kernel_rfl) (fun _ _ _ h => h) (Or.inl ⟨by rfl, ?_⟩) hHeld ?_
  rotate_left
  · intro wq hSw
    go_simp
    try with_reducible rfl
  try simp only [Act.put, List.getElem_toArray, List.getElem_cons_succ, List.getElem_cons_zero, List.setIfInBounds_toArray, List.set_cons_zero, List.set_cons_succ]
  refine wpAnyH_take (i := 1) (v := ?_) rfl (by kernel_rfl) (by kernel_rfl) (by kernel_rfl) (fun _ _ _ h => h) (Or.inl ⟨by rfl, ?_⟩) hHeld ?_
  rotate_left
  · intro wq hSw
    have zc := (HZ.out.step hSw).cell
    have zl := (HZ.out.step hSw).lt
    go_simp
    try with_reducible rfl
  try simp only [Act.put, List.getElem_toArray, List.getElem_cons_succ, List.getElem_cons_zero, List.setIfInBounds_toArray, List.set_cons_zero, List.set_cons_succ]
  refine wpAnyH_take (i := 2) (v := ?_) rfl (by kernel_rfl) (by kernel_rfl) (by kernel_rfl) (fun _ _ _ h => h) (Or.inl ⟨by rfl, ?_⟩) hHeld ?_
  rotate_left
  · intro wq hSw
    go_simp
    try with_reducible rfl
  try simp only [Act.put, List.getElem_toArray, List.getElem_cons_succ, List.getElem_cons_zero, List.setIfInBounds_toArray, List.set_cons_zero, List.set_cons_succ]
  refine wpAnyH_take (i := 3) (v := ?_) rfl (by kernel_rfl) (by kernel_rfl) (by kernel_rfl) (fun _ _ _ h => h) (Or.inl ⟨by rfl, ?_⟩) hHeld ?_
  rotate_left
  · intro wq hSw
    go_simp
    try with_reducible rfl
  try simp only [Act.put, List.getElem_toArray, List.getElem_cons_succ, List.getElem_cons_zero, List.setIfInBounds_toArray, List.set_cons_zero, List.set_cons_succ]
  refine wpAnyH_take (i := 4) (v := ?_) rfl (by kernel_rfl) (by kernel_rfl) (by kernel_rfl) (fun _ _ _ h => h) (Or.inl ⟨by rfl, ?_⟩) hHeld ?_
  rotate_left
  · intro wq hSw
    obtain ⟨d0, d1, d2, d3, d4⟩ := HX.out _ hSw
    go_simp
    try with_reducible rfl
  try simp only [Act.put, List.getElem_toArray, List.getElem_cons_succ, List.getElem_cons_zero, List.setIfInBounds_toArray, List.set_cons_zero, List.set_cons_succ]
  refine wpAnyH_take (i := 5) (v := ?_) rfl (by kernel_rfl) (by kernel_rfl) (by kernel_rfl) (fun _ _ _ h => h) (Or.inl ⟨by rfl, ?_⟩) hHeld ?_
  rotate_left
  · intro wq hSw
    have tc := (HW.out.step hSw).bt.cell
    have tl := (HW.out.step hSw).bt.lt
    go_simp
    try with_reducible rfl
  try simp only [Act.put, List.getElem_toArray, List.getElem_cons_succ, List.getElem_cons_zero, List.setIfInBounds_toArray, List.set_cons_zero, List.set_cons_succ]
  refine wpAnyH_take (i := 6) (v := ?_) rfl (by kernel_rfl) (by kernel_rfl) (by kernel_rfl) (fun _ _ _ h => h) (Or.inl ⟨by rfl, ?_⟩) hHeld ?_
  rotate_left
  · intro wq hSw
    go_simp
    try with_reducible rfl
  try simp only [Act.put, List.getElem_toArray, List.getElem_cons_succ, List.getElem_cons_zero, List.setIfInBounds_toArray, List.set_cons_zero, List.set_cons_succ]
  refine wpAnyH_take (i := 7) (v := ?_) rfl (by kernel_rfl) (by kernel_rfl) (by kernel_rfl) (fun _ _ _ h => h) (Or.inl ⟨by rfl, ?_⟩) hHeld ?_
  rotate_left
  · intro wq hSw
    go_simp
    try with_reducible rfl
  try simp only [Act.put, List.getElem_toArray, List.getElem_cons_succ, List.getElem_cons_zero, List.setIfInBounds_toArray, List.set_cons_zero, List.set_cons_succ]
  refine wpAnyH_take (i := 8) (v := ?_) rfl (by kernel_rfl) (by kernel_rfl) (by kernel_rfl) (fun _ _ _ h => h) (Or.inl ⟨by rfl, ?_⟩) hHeld ?_
  rotate_left
  · intro wq hSw
    have gc := ((HW.out.step hSw).at hKI2).trans (congrArg some HLt.out)
    have gl := (HW.out.step hSw).bk.lt
    go_simp
    try with_reducible rfl
  try simp only [Act.put, List.getElem_toArray, List.getElem_cons_succ, List.getElem_cons_zero, List.setIfInBounds_toArray, List.set_cons_zero, List.set_cons_succ]
  refine wpAnyH_take (i := 9) (v := ?_) rfl (by kernel_rfl) (by kernel_rfl) (by kernel_rfl) (fun _ _ _ h => h) (Or.inl ⟨by rfl, ?_⟩) hHeld ?_
  rotate_left
  · intro wq hSw
    go_simp
    try with_reducible rfl
  try simp only [Act.put, List.getElem_toArray, List.getElem_cons_succ, List.getElem_cons_zero, List.setIfInBounds_toArray, List.set_cons_zero, List.set_cons_succ]
  refine wpAnyH_ready (rs := [10]) (by kernel_rfl) (by simp) ?_
  refine AllReadyH.cons rfl (fun K hK => ?_) AllReadyH.nil
  go_simp
  go_at_call 46
  refine (HCT.out _ hHeld).mono ?_
  rintro e w8 ⟨rfl, hb8⟩
  have HT8 := Lib.hid (HT.out.drew.step hb8)
  have hS8 := hHeld.trans (hb8.mono hHeld.size)
  try go_wp2_with fail
  refine hK.out _ _ hS8 (fun hHeld2 => ?_)
  clear hK K hHeld hb8
  have hHeld := hS8
  clear hS8 hHeld2
  try simp only [Act.put, List.getElem_toArray, List.getElem_cons_succ, List.getElem_cons_zero, List.setIfInBounds_toArray, List.set_cons_zero, List.set_cons_succ]
  refine wpAnyH_ready (rs := [11]) (by kernel_rfl) (by simp) ?_
  refine AllReadyH.cons rfl (fun K hK => ?_) AllReadyH.nil
  have q1 := HT8.out.cell
  have q2 := HT8.out.frz
  have q3 := HT8.out.lt
  go_simp
  refine hK.out _ _ (below3 hHeld (Nat.le_refl _)) (fun hHeld2 => ?_)
  clear hK K q1 q2 q3 hHeld2
  try simp only [Act.put, List.getElem_toArray, List.getElem_cons_succ, List.getElem_cons_zero, List.setIfInBounds_toArray, List.set_cons_zero, List.set_cons_succ]
  refine wpAnyH_done (by kernel_rfl) ?_ _
  refine NoPanic.normal ?_
  have HTF := Lib.hid (blk3 HT8.out (x := .int .i64 ty.1) (y := .bool ty.2.1) (z := .string ty.2.2))
  have HBF := Lib.hid (below3 (x := .int .i64 ty.1) (y := .bool ty.2.1) (z := .string ty.2.2) hHeld (Nat.le_refl _))
  obtain ⟨U, hU⟩ : ∃ U, ((w8.setCell ⟨V.heap.size, 0, none⟩ (.int .i64 ty.1)).setCell ⟨V.heap.size, 1, none⟩ (.bool ty.2.1)).setCell ⟨V.heap.size, 2, none⟩ (.string ty.2.2) = U := ⟨_, rfl⟩
  rw [hU] at HTF HBF ⊢
  clear hU
  try go_wp2_with fail
  have hf := HTF.out.cell
  exact bodyPost_ret (v := tyV ty) (by simp [results, Tryz.results51, go_sem, hf]) rfl ⟨by rw [HF.out], HBF.out⟩
end Go.Proofs.YtanaoohgpdcfjaaGreatDoor
