/- Part 43 of the proof of TopWall: no condition; what its declarations say stands at each. -/
import Derived.Test.YthppifcggmdmoaaGreatDoorW38
import Derived.Test.YthppifcggmdmoaaGreatDoorW42
import Derived.Test.YthppifcggmdmoaaGreatDoorW40
namespace Go.Proofs.YthppifcggmdmoaaGreatDoor
set_option linter.unusedVariables false
set_option linter.unusedSimpArgs false
theorem letters_app {o a b : List UInt8} : lettersB o (a ++ b) = (lettersB o a && lettersB o b) := by unfold lettersB; rw [List.all_append]
theorem abbr_let {l : List UInt8} (h : isAbbrB l = true) : lettersB [43, 45] l = true := by
 unfold isAbbrB allB at h
 simp only [Bool.and_eq_true] at h
 exact h.1
theorem abbr_of {s : ByteArray} (h : lettersB [43, 45] s.data.toList = true) (h1 : ¬ s.size = 0) (h2 : ¬ 8 < s.size) : isAbbrB s.data.toList = true := by
 have e : s.size = s.data.toList.length := Lib.size_eq s
 unfold isAbbrB allB
 rw [h, Bool.true_and]
 exact decide_eq_true (by omega)
theorem ab_abbr {F l : ByteArray} {sv : Int} (h : abE F sv l = 0) : isAbbrB (abV F sv l).data.toList = true := by
 have hv : abV F sv l = fmtOut F sv l := by rw [abV, if_pos h]
 rw [hv]
 unfold abE at h
 split at h
 ·rename_i h1
  split at h
  ·split at h
   ·cases h
   ·rename_i h3
    split at h
    ·cases h
    ·rename_i h4
     rw [Bool.and_eq_true] at h1
     obtain ⟨hF, hL⟩ := h1
     unfold fmtOk at hF
     unfold fmtOut at h3 h4 ⊢
     split at hF
     ·cases hF
     ·split at hF
      ·rename_i h5
       rw [if_pos h5]
       rw [Bool.and_eq_true] at hF
       split
       ·exact hF.1
       ·exact hF.2
      ·rename_i h5
       rw [if_neg h5] at h3 h4 ⊢
       split at hF
       ·rename_i h6
        rw [if_pos h6] at h3 h4 ⊢
        refine abbr_of ?_ h4 h3
        have hAB : lettersB [43, 45] (cutA F 37 ++ cutB F 37).data.toList = true := by
         unfold pctOk at hF
         rw [Bool.or_eq_true] at hF
         rcases hF with hF | hF
         ·have h0 : (cutA F 37 ++ cutB F 37).data.toList = [] := by
           have e : (cutA F 37 ++ cutB F 37).size = (cutA F 37 ++ cutB F 37).data.toList.length := Lib.size_eq _
           simp at hF
           exact List.length_eq_zero_iff.1 (by simp at *; omega)
          rw [h0]; rfl
         ·exact abbr_let hF
        have hl : lettersB [43, 45] (letV l).data.toList = true := by
         unfold letV
         unfold letOk at hL
         split
         ·rfl
         ·rename_i h7
          rw [Bool.or_eq_true] at hL
          rcases hL with hL | hL
          ·exact absurd hL h7
          ·exact abbr_let hL
        simp only [ByteArray.data_append, Array.toList_append, letters_app, Bool.and_eq_true] at hAB ⊢
        exact ⟨hAB.1, hl, hAB.2⟩
       ·rename_i h6
        rw [if_neg h6]
        exact hF
  ·cases h
 ·cases h
theorem er_abs {rs : List RuT} {zs : List ZoT} {ls : List LkT} (h : bookE rs zs ls = 0) {z : ZoT} (hz : z ∈ zs) {x : ErT} (hx : x ∈ z.eras) : absE rs x = 0 ∧ (sEq x.rules eMT = false → x.save = 0) := by
 obtain ⟨k, hk, rfl⟩ := List.getElem_of_mem hz
 have h1 := zoE_inv ((bookE_inv h).2.2.1 k hk)
 rw [get_bang hk] at h1
 obtain ⟨_, _, h2, h3, h4⟩ := h1
 obtain ⟨j, hj, rfl⟩ := List.getElem_of_mem hx
 have h5 := firE_inv h4 j hj
 rw [erE, get_bang hj] at h5
 have h6 : erE1 rs zs[k].eras[j] = 0 := by
  by_cases h6 : erE1 rs zs[k].eras[j] = 0
  ·exact h6
  ·rw [if_neg h6] at h5; exact absurd h5 h6
 rw [erE1] at h6
 split at h6
 ·cases h6
 ·split at h6
  ·cases h6
  ·rename_i h8
   split at h6
   ·cases h6
   ·exact ⟨h6, fun hr => Classical.byContradiction fun hs => h8 ⟨hs, hr⟩⟩
theorem fst_mem {l : List TuT} : fstL l = dASH ∨ ∃ u ∈ l, u.2.1 = 0 ∧ fstL l = u.2.2 := by
 by_cases h : ∃ u ∈ l, zS u = true
 ·right
  have hs : (l.find? zS).isSome = true := by rw [List.find?_isSome]; obtain ⟨u, hu, hz⟩ := h; exact ⟨u, hu, hz⟩
  obtain ⟨u, hu⟩ := Option.isSome_iff_exists.1 hs
  obtain ⟨k, hk, e1, e2⟩ := idx_find 0 hu
  have hz := List.find?_some hu
  refine ⟨u, List.mem_of_find?_eq_some hu, by unfold zS at hz; simpa using hz, ?_⟩
  unfold fstL
  rw [e1, Nat.zero_add]
  simp [List.getD, hk, e2]
 ·left
  exact fstL_none (fun j hj => by
   cases e : zS l[j] with
   | false => rfl
   | true => exact absurd ⟨l[j], List.getElem_mem hj, e⟩ h)
theorem st_ab {rs : List RuT} {zs : List ZoT} {ls : List LkT} (h : bookE rs zs ls = 0) {z : ZoT} (hz : z ∈ zs) {x : ErT} (hx : x ∈ z.eras) (t : Int) : abE x.format (stS x (trnL rs x) t).1 (stS x (trnL rs x) t).2 = 0 := by
 obtain ⟨h1, h2⟩ := er_abs h hz hx
 have hb : ∀ r ∈ rs, RuB r := fun r hr => by
  obtain ⟨j, hj, rfl⟩ := List.getElem_of_mem hr
  have := (bookE_inv h).2.1 j hj
  rw [get_bang hj] at this
  exact RuB.of this
 have hE := (esOk_of h hz).2.2.2 x hx
 unfold absE at h1
 by_cases hr : sEq x.rules eMT = true
 ·rw [if_pos hr] at h1
  rw [(trn_no hr).2]
  unfold stS
  rw [fstL_nil]
  exact h1
 ·rw [if_neg hr] at h1
  have hr' : sEq x.rules eMT = false := by simpa using hr
  have hall : firE (fun j => arE x rs[j]!) rs.length = 0 := by
   by_cases h9 : firE (fun j => arE x rs[j]!) rs.length = 0
   ·exact h9
   ·rw [if_neg h9] at h1; exact h1
  rw [if_pos hall] at h1
  have hu : ∀ u ∈ trnL rs x, abE x.format u.2.1 u.2.2 = 0 := fun u hu => by
   rw [(trn_yes hr').2] at hu
   obtain ⟨_, r, hr2, hn, e⟩ := turnL_mem hb (by omega) (by omega) u hu
   obtain ⟨j, hj, rfl⟩ := List.getElem_of_mem hr2
   have := firE_inv hall j hj
   simp only [get_bang hj] at this
   unfold arE at this
   rw [if_pos hn] at this
   rw [e]; exact this
  have hs := tuCount_spec (trnL_sorted rs x) t
  unfold stS
  split
  ·rw [h2 hr']
   rcases fst_mem (l := trnL rs x) with e | ⟨u, hm, e1, e2⟩
   ·show abE x.format 0 (fstL (trnL rs x)) = 0
    rw [e]; exact h1
   ·show abE x.format 0 (fstL (trnL rs x)) = 0
    have := hu u hm
    rw [e1, ← e2] at this
    exact this
  ·rename_i h0
   have hlt : tuCount (trnL rs x) t - 1 < (trnL rs x).length := by omega
   have e : (trnL rs x).getD (tuCount (trnL rs x) t - 1) default = (trnL rs x)[tuCount (trnL rs x) t - 1] := by simp [List.getD, hlt]
   rw [e]
   exact hu _ (List.getElem_mem hlt)
theorem tT_ok {rs : List RuT} {zs : List ZoT} {ls : List LkT} (h : bookE rs zs ls = 0) {z : ZoT} (hz : z ∈ zs) {k : Nat} (hk : k < z.eras.length) (t : Int) : -75600 ≤ (tT rs z.eras k t).1 ∧ (tT rs z.eras k t).1 ≤ 75600 ∧ isAbbrB (tT rs z.eras k t).2.2.data.toList = true := by
 have hx := List.getElem_mem hk
 have ha := st_ab h hz hx t
 have hE := (esOk_of h hz).2.2.2 _ hx
 have hsv : 0 ≤ (stS z.eras[k] (trnL rs z.eras[k]) t).1 ∧ (stS z.eras[k] (trnL rs z.eras[k]) t).1 ≤ 10800 := by
  have h9 := ha
  unfold abE at h9
  split at h9
  ·split at h9
   ·assumption
   ·cases h9
  ·cases h9
 unfold tT
 rw [get_bang hk]
 unfold typeV
 exact ⟨by show -75600 ≤ z.eras[k].off + _; omega, by show z.eras[k].off + _ ≤ 75600; omega, ab_abbr ha⟩
theorem eraI_lt {es : List ErT} (hs : ErSorted es) (h0 : 0 < es.length) (t : Int) : eraI es t < es.length := by
 have := (eraI_spec hs t).1; omega
theorem evs_sorted {l : List TuT} (hs : TuSorted l) (lo hi : Int) : (evs l lo hi).Pairwise (· < ·) := by
 unfold evs
 exact List.pairwise_map.2 (List.Pairwise.filter _ hs)
section
variable {rs : List RuT} {es : List ErT} {F T : Int}
theorem refK_bd {k : Nat} {t : Int} (h : t ∈ refK rs es F T k) : loK es F k ≤ t ∧ t ≤ hiK es T k := by
 unfold refK at h
 split at h
 ·cases h
 ·rcases List.mem_cons.1 h with rfl | h
  ·omega
  ·have := evs_mem h; omega
theorem refK_sorted (k : Nat) : (refK rs es F T k).Pairwise (· < ·) := by
 unfold refK
 split
 ·exact List.Pairwise.nil
 ·refine List.pairwise_cons.2 ⟨fun v hv => ?_, evs_sorted (trnL_sorted _ _) _ _⟩
  have := evs_mem hv; omega
theorem refL_mem {n : Nat} {t : Int} : t ∈ refL rs es F T n ↔ ∃ k, k < n ∧ t ∈ refK rs es F T k := by
 unfold refL
 simp only [List.mem_flatten, List.mem_map, List.mem_range]
 constructor
 ·rintro ⟨l, ⟨k, hk, rfl⟩, h⟩; exact ⟨k, hk, h⟩
 ·rintro ⟨k, hk, h⟩; exact ⟨_, ⟨k, hk, rfl⟩, h⟩
theorem refL_sorted (hs : ErSorted es) : ∀ n, n ≤ es.length → (refL rs es F T n).Pairwise (· < ·)
 | 0, _ => by unfold refL; exact List.Pairwise.nil
 | n + 1, hn => by
  rw [refL_succ]
  refine List.pairwise_append.2 ⟨refL_sorted hs n (by omega), refK_sorted n, fun a ha b hb => ?_⟩
  obtain ⟨j, hj, ha⟩ := refL_mem.1 ha
  have h1 := (refK_bd ha).2
  have h2 := (refK_bd hb).1
  have h3 : hiK es T j ≤ es[j]!.until_ - 1 := by
   unfold hiK
   rw [if_pos (by omega)]
   omega
  have h4 : es[n - 1]!.until_ ≤ loK es F n := by
   unfold loK
   rw [if_neg (by omega)]
   omega
  have h5 : es[j]!.until_ ≤ es[n - 1]!.until_ := by
   by_cases e : j = n - 1
   ·rw [e]; exact Int.le_refl _
   ·exact Int.le_of_lt (until_up hs (by omega) (by omega))
  omega
theorem refL_gt {n : Nat} {t : Int} (h : t ∈ refL rs es F T n) : F < t ∧ t < T := by
 obtain ⟨k, _, h⟩ := refL_mem.1 h
 obtain ⟨h1, h2⟩ := refK_bd h
 have h3 : F + 1 ≤ loK es F k := by unfold loK; split <;> omega
 have h4 : hiK es T k ≤ T - 1 := by unfold hiK; split <;> omega
 omega
theorem eraI_until (hs : ErSorted es) (h0 : 0 < es.length) (t : Int) : (0 < eraI es t → es[eraI es t - 1]!.until_ ≤ t) ∧ (eraI es t + 1 < es.length → t < es[eraI es t]!.until_) := by
 obtain ⟨a, b, c⟩ := eraI_spec hs t
 refine ⟨fun h => ?_, fun h => ?_⟩
 ·rw [get_bang (by omega)]; exact b _ (by omega) (by omega)
 ·rw [get_bang (by omega)]; exact c _ (by omega) (Nat.le_refl _)
theorem eraI_mono (hs : ErSorted es) (h0 : 0 < es.length) {u t : Int} (h : u ≤ t) : eraI es u ≤ eraI es t := by
 obtain ⟨a, b, c⟩ := eraI_spec hs u
 obtain ⟨a', b', c'⟩ := eraI_spec hs t
 rcases Nat.lt_or_ge (eraI es t) (eraI es u) with hl | hl
 ·exfalso
  have h1 := b (eraI es t) (by omega) hl
  have h2 := c' (eraI es t) (by omega) (Nat.le_refl _)
  omega
 ·exact hl
theorem fT_const (hs : ErSorted es) (h0 : 0 < es.length) {u t : Int} (h1 : F ≤ u) (h2 : u ≤ t) (h3 : t < T) (hno : ∀ v ∈ refL rs es F T es.length, ¬ (u < v ∧ v ≤ t)) : fT rs es u = fT rs es t := by
 obtain ⟨k, hk⟩ : ∃ k, eraI es t = k := ⟨_, rfl⟩
 have hkl : k < es.length := by rw [← hk]; exact eraI_lt hs h0 t
 have hm := eraI_mono hs h0 h2
 obtain ⟨w1, w2⟩ := eraI_until hs h0 t
 obtain ⟨w3, w4⟩ := eraI_until hs h0 u
 rw [hk] at w1 w2 hm
 have hhi : t ≤ hiK es T k := by
  unfold hiK
  split
  ·rename_i h; have := w2 h; omega
  ·omega
 by_cases he : eraI es u = k
 ·unfold fT
  rw [he, hk]
  have hc : tuCount (trnL rs es[k]!) u = tuCount (trnL rs es[k]!) t := by
   obtain ⟨a1, a2, a3⟩ := tuCount_spec (trnL_sorted rs es[k]!) u
   obtain ⟨b1, b2, b3⟩ := tuCount_spec (trnL_sorted rs es[k]!) t
   rcases Nat.lt_trichotomy (tuCount (trnL rs es[k]!) u) (tuCount (trnL rs es[k]!) t) with h | h | h
   ·exfalso
    have q1 := b2 (tuCount (trnL rs es[k]!) u) (by omega) h
    have q2 := a3 (tuCount (trnL rs es[k]!) u) (by omega) (Nat.le_refl _)
    obtain ⟨v, hv⟩ : ∃ v, (trnL rs es[k]!)[tuCount (trnL rs es[k]!) u]'(by omega) = v := ⟨_, rfl⟩
    rw [hv] at q1 q2
    have hvm : v ∈ trnL rs es[k]! := by rw [← hv]; exact List.getElem_mem _
    have hlo : loK es F k ≤ v.1 := by
     unfold loK
     split
     ·omega
     ·rename_i hk0; rw [he] at w3; have := w3 (by omega); omega
    refine hno v.1 (refL_mem.2 ⟨k, hkl, ?_⟩) ⟨q2, q1⟩
    unfold refK
    rw [if_neg (by omega)]
    by_cases e : v.1 = loK es F k
    ·rw [e]; exact List.mem_cons_self
    ·refine List.mem_cons_of_mem _ ?_
     unfold evs
     exact List.mem_map.2 ⟨v, List.mem_filter.2 ⟨hvm, by simp; omega⟩, rfl⟩
   ·exact h
   ·exfalso
    have q1 := a2 (tuCount (trnL rs es[k]!) t) (by omega) h
    have q2 := b3 (tuCount (trnL rs es[k]!) t) (by omega) (Nat.le_refl _)
    omega
  unfold tT typeV stS
  rw [hc]
 ·exfalso
  have hlt : eraI es u < k := by omega
  have q1 := w4 (by omega)
  have q2 := w1 (by omega)
  have q3 : es[eraI es u]!.until_ ≤ es[k - 1]!.until_ := by
   by_cases e : eraI es u = k - 1
   ·rw [e]; exact Int.le_refl _
   ·exact Int.le_of_lt (until_up hs (by omega) (by omega))
  have hl : loK es F k = es[k - 1]!.until_ := by
   unfold loK
   rw [if_neg (by omega)]
   omega
  refine hno es[k - 1]!.until_ (refL_mem.2 ⟨k, hkl, ?_⟩) ⟨by omega, q2⟩
  unfold refK
  rw [if_neg (by omega), hl]
  exact List.mem_cons_self
end
theorem fAt_const {f : Int → Ty} {t : Int} : ∀ {l : List Int} {x : Ty} {F : Int}, l.Pairwise (· < ·) → (∀ v ∈ l, F < v) → x = f F → (∀ u, F ≤ u → u ≤ t → (∀ v ∈ l, ¬ (u < v ∧ v ≤ t)) → f u = f t) → F ≤ t → fAt x (l.map fun v => (v, f v)) t = f t
 | [], x, F, _, _, hx, H, hF => by
  show x = f t
  rw [hx]; exact H F (Int.le_refl _) hF (fun v hv => by cases hv)
 | v :: l, x, F, hp, hg, hx, H, hF => by
  obtain ⟨p1, p2⟩ := List.pairwise_cons.1 hp
  rw [List.map_cons, fAt_cons]
  by_cases hv : v ≤ t
  ·rw [if_pos hv]
   exact fAt_const p2 p1 rfl (fun u h1 h2 h3 => H u (by have := hg v (by simp); omega) h2 (fun w hw => by
    rcases List.mem_cons.1 hw with rfl | hw
    ·omega
    ·exact h3 w hw)) hv
  ·rw [if_neg hv, fAt_none (fun c hc => by
    obtain ⟨w, hw, rfl⟩ := List.mem_map.1 hc
    have := p1 w hw
    show t < w
    omega), hx]
   exact H F (Int.le_refl _) hF (fun w hw => by
    rcases List.mem_cons.1 hw with rfl | hw
    ·omega
    ·have := p1 w hw; omega)
def tabS (rs : List RuT) (es : List ErT) (F T : Int) : NSt := nBuild (fT rs es F) ((refL rs es F T es.length).map fun t => (t, fT rs es t))
theorem tab_says {rs : List RuT} {es : List ErT} {F T : Int} (hs : ErSorted es) (h0 : 0 < es.length) {t : Int} (h1 : F ≤ t) (h2 : t < T) : tabOf (tabS rs es F T).ts 0 (tabS rs es F T).cs t = fT rs es t := by
 obtain ⟨d1, d2⟩ := nBuild_decode (fT rs es F) ((refL rs es F T es.length).map fun t => (t, fT rs es t))
 have hp := refL_sorted (rs := rs) (F := F) (T := T) hs es.length (Nat.le_refl _)
 rw [tabOf_fAt]
 unfold tabS
 rw [d2]
 have hf : (nBuild (fT rs es F) ((refL rs es F T es.length).map fun t => (t, fT rs es t))).ts.getD (0 : Int).toNat tyZero = fT rs es F := by
  rw [List.head?_eq_getElem?] at d1
  show (List.getD _ 0 _) = _
  rw [List.getD, d1]; rfl
 rw [hf, fAt_dd _ _ _ (List.pairwise_map.2 hp)]
 exact fAt_const hp (fun v hv => (refL_gt hv).1) rfl (fun u g1 g2 g3 => fT_const hs h0 g1 g2 h2 g3) h1
theorem nBuild_ix (x : Ty) (l : List (Int × Ty)) : ∀ c ∈ (nBuild x l).cs, 0 ≤ c.2 ∧ c.2 < (nBuild x l).ts.length := by
 have key : ∀ (l : List (Int × Ty)) (s : NSt), (∀ c ∈ s.cs, 0 ≤ c.2 ∧ c.2 < s.ts.length) → ∀ c ∈ (l.foldl (fun s c => nStep s c.1 c.2) s).cs, 0 ≤ c.2 ∧ c.2 < (l.foldl (fun s c => nStep s c.1 c.2) s).ts.length := by
  intro l
  induction l with
  | nil => intro s hs; exact hs
  | cons c r ih =>
   intro s hs
   rw [List.foldl_cons]
   refine ih _ ?_
   by_cases e : c.2 = s.last
   ·rw [nStep_same e]; exact hs
   ·rw [nStep_other e]
    obtain ⟨y, hy, _⟩ := addTy_pre s.ts c.2
    have hlen : s.ts.length ≤ (addTy s.ts c.2).length := by rw [hy]; simp
    have hnum : numTy s.ts c.2 < (addTy s.ts c.2).length := by
     by_cases h : c.2 ∈ s.ts
     ·rw [addTy_old h]; exact numTy_lt.2 h
     ·rw [addTy_new h, numTy_none h]; simp
    intro d hd
    rcases List.mem_append.1 hd with hd | hd
    ·have := hs d hd; simp only; omega
    ·simp only [List.mem_singleton] at hd; subst hd; simp only; omega
 exact key l (nBegin x) (by simp [nBegin])
theorem tab_may {rs : List RuT} {zs : List ZoT} {ls : List LkT} (h : bookE rs zs ls = 0) {z : ZoT} (hz : z ∈ zs) {F T : Int} (hF : -1099511627776 ≤ F) (hT : T ≤ 1099511627776) (h1 : (tabS rs z.eras F T).ts.length ≤ 250) (h2 : (tabS rs z.eras F T).cs.length ≤ 1000) : TabOk (tabS rs z.eras F T).ts 0 (tabS rs z.eras F T).cs := by
 obtain ⟨h0, _, hs, _⟩ := esOk_of h hz
 obtain ⟨d1, d2⟩ := nBuild_decode (fT rs z.eras F) ((refL rs z.eras F T z.eras.length).map fun t => (t, fT rs z.eras t))
 have hp := refL_sorted (rs := rs) (F := F) (T := T) hs z.eras.length (Nat.le_refl _)
 have hpos : 0 < (tabS rs z.eras F T).ts.length := by
  unfold tabS
  cases e : (nBuild (fT rs z.eras F) ((refL rs z.eras F T z.eras.length).map fun t => (t, fT rs z.eras t))).ts with
  | nil => rw [e] at d1; cases d1
  | cons a b => simp
 have hall : ∀ t ∈ (tabS rs z.eras F T).ts, -75600 ≤ t.1 ∧ t.1 ≤ 75600 ∧ isAbbrB t.2.2.data.toList = true := by
  unfold tabS
  refine nBuild_all (fun t => -75600 ≤ t.1 ∧ t.1 ≤ 75600 ∧ isAbbrB t.2.2.data.toList = true) _ _ (tT_ok h hz (eraI_lt hs h0 F) F) (fun c hc => ?_)
  obtain ⟨t, _, rfl⟩ := List.mem_map.1 hc
  exact tT_ok h hz (eraI_lt hs h0 t) t
 have hmem : ∀ c ∈ (tabS rs z.eras F T).cs, F < c.1 ∧ c.1 < T := fun c hc => by
  have hm : chTy (tabS rs z.eras F T).ts c ∈ (tabS rs z.eras F T).cs.map (chTy (tabS rs z.eras F T).ts) := List.mem_map.2 ⟨c, hc, rfl⟩
  unfold tabS at hm
  rw [d2] at hm
  obtain ⟨v, hv, e⟩ := List.mem_map.1 (dd_sub _ _ _ hm)
  have e1 : v = c.1 := by have := congrArg Prod.fst e; exact this
  rw [← e1]; exact refL_gt hv
 refine ⟨hpos, h1, h2, hall, Int.le_refl _, by omega, fun c hc => ?_, ?_⟩
 ·have a := hmem c hc
  have b := nBuild_ix (fT rs z.eras F) ((refL rs z.eras F T z.eras.length).map fun t => (t, fT rs z.eras t)) c hc
  exact ⟨by omega, by omega, b.1, b.2⟩
 ·have q := dd_sorted (fT rs z.eras F) ((refL rs z.eras F T z.eras.length).map fun t => (t, fT rs z.eras t)) (List.pairwise_map.2 hp)
  rw [← d2] at q
  have q2 := List.pairwise_map.1 q
  exact q2
end Go.Proofs.YthppifcggmdmoaaGreatDoor

