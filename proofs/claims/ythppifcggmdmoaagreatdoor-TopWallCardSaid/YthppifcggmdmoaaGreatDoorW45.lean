/- Part 45 of the proof of TopWall: no condition; what its declarations say stands at each. -/
import Derived.Test.YthppifcggmdmoaaGreatDoorW36
import Derived.Test.YthppifcggmdmoaaGreatDoorW44
import Derived.Test.YthppifcggmdmoaaGreatDoorW39
namespace Go.Proofs.YthppifcggmdmoaaGreatDoor
open Go.RowKit
set_option linter.unusedVariables false
set_option linter.unusedSimpArgs false
attribute [local go_sem ↓] Go.wp_at_zero Go.wp_at_succ
theorem keepZ {W W2 : World} {g1 g2 : Nat} {c1 c2 : Array Value} (h : (∀ i, W.cell? ⟨g1, i, none⟩ = c1[i]?) ∧ (∀ i, W.cell? ⟨g2, i, none⟩ = c2[i]?) ∧ g1 < W.heap.size ∧ g2 < W.heap.size) (h2 : Below W.heap.size W W2) :
  (∀ i, W2.cell? ⟨g1, i, none⟩ = c1[i]?) ∧ (∀ i, W2.cell? ⟨g2, i, none⟩ = c2[i]?) ∧ g1 < W2.heap.size ∧ g2 < W2.heap.size :=
 ⟨fun i => (h2.cell (p := ⟨g1, i, none⟩) h.2.2.1).trans (h.1 i), fun i => (h2.cell (p := ⟨g2, i, none⟩) h.2.2.2).trans (h.2.1 i), by have := h2.size; omega, by have := h2.size; omega⟩
set_option maxRecDepth 100000 in
set_option maxHeartbeats 8000000 in
theorem s_At_z (AR AZ AL : Option Addr) (cR cZ cL : Nat) (rs : List RuT) (zs : List ZoT) (ls : List LkT) (nm : ByteArray) (hnm : nm.size ≤ maxLen) (t : Int) (w : World) (H : BkOk w w.heap.size ⟨AR, AZ, AL, cR, cZ, cL, rs, zs, ls⟩) (HI : EraIn w) (ht1 : -9223372036854775808 ≤ t) (ht2 : t ≤ 9223372036854775807) (z : ZoT) (h : bookE rs zs ls = 0) (hres : res zs ls (ls.length + 1) nm = .zone z) (x : ErT) (hx : ∃ hk : eraI z.eras t < z.eras.length, z.eras[eraI z.eras t] = x) (E : Int) (hE : E = if stE t ≠ 0 then stE t else trnE rs x) (ty : Ty) (hty : ty = if E = 0 then typeV x (trnL rs x) t else (0, false, ⟨#[]⟩)) :
  Calls Tryz.prog 18 #[.agg #[.slice AR rs.length cR, .slice AZ zs.length cZ, .slice AL ls.length cL], .string nm, .int .i64 t] w fun e w' => e = .returned (.tuple #[.agg #[.int .i64 ty.1, .bool ty.2.1, .string ty.2.2], .int .i64 E]) ∧ Below w.heap.size w w' := by
 have hb1 := (Below.refl w.heap.size w).alloc (Nat.le_refl _) (.cells #[.slice AR rs.length cR, .slice AZ zs.length cZ, .slice AL ls.length cL] 26)
 have hb2 := hb1.alloc (by rw [size_alloc]; omega) (.cells #[.int .i64 0, .bool false, .string ⟨#[]⟩] 56)
 have k1 := (Blk.new w #[.slice AR rs.length cR, .slice AZ zs.length cZ, .slice AL ls.length cL] 26).alloc (.cells #[.int .i64 0, .bool false, .string ⟨#[]⟩] 56)
 have k2 := Blk.new (w.alloc (.cells #[.slice AR rs.length cR, .slice AZ zs.length cZ, .slice AL ls.length cL] 26)) #[.int .i64 0, .bool false, .string ⟨#[]⟩] 56
 rw [size_alloc] at k2
 have hEs := esOk_of h (res_mem hres)
 obtain ⟨e1, e2, e3, e4⟩ := hEs
 obtain ⟨hk, hxk⟩ := hx
 have hx4 := e4 x (by rw [← hxk]; exact List.getElem_mem hk)
 have HRU := Lib.hid (rub_of_book h)
 have HC := Lib.hid (fun (V : World) (hb : Below w.heap.size w V) => n_Resolve_z AR AZ AL cR cZ cL rs zs ls nm hnm V (H.step hb) (HI.on hb) h z hres)
 have HST := Lib.hid (fun (V : World) (hb : Below w.heap.size w V) => k_Stamp t ht1 ht2 V (HI.on hb))
 have HWh := Lib.hid (fun (A : Option Addr) (c : Nat) (V : World) (hA : SlAt V V.heap.size 5 A (z.eras.map erC)) (hc : z.eras.length ≤ c) (hm : c ≤ maxLen) => s_Which A c z.eras t V hA hc hm e3 (by omega) e1)
 have HEr := Lib.hid (fun (A : Option Addr) (c : Nat) (V : World) (hb : Below w.heap.size w V) (hA : SlAt V V.heap.size 5 A ([x].map erC)) (hc : 1 ≤ c) (hm : c ≤ maxLen) => (show Calls Tryz.prog 45 #[.agg #[.slice AR rs.length cR, .slice AZ zs.length cZ, .slice AL ls.length cL], .agg #[.string ⟨#[]⟩, .slice A 1 c]] V (OnePost rs x V) from (s_Eras AR AZ AL A cR zs.length cZ ls.length cL c rs ⟨#[]⟩ [x] V (H.step hb).R (H.step hb).hR (H.step hb).mR (bookE_inv h).1.1 HRU.out hA hc hm (by simp) (by intro y hy; rw [List.mem_singleton.1 hy]; omega)).mono (fun e w' he => one_post he)))
 have HTA := Lib.hid (fun (A : Option Addr) (c : Nat) (V : World) (hA : SlAt V V.heap.size 3 A ((trnL rs x).map tuCells)) (hc : (trnL rs x).length ≤ c) (hm : c ≤ maxLen) => s_TAt x A c (trnL rs x) t V hA hc hm (trnL_sorted rs x) (trnL_len rs x) (trn_ok HRU.out H.rs x (by omega) (by omega)) hx4.2 (by omega))
 have HXK := Lib.hid (fun (V : World) (b o : Nat) (hA : SlAt V V.heap.size 5 (some ⟨b, o, none⟩) (z.eras.map erC)) => (show SlAt V V.heap.size 5 (some ⟨b, o + eraI z.eras t * 5, none⟩) ([x].map erC) from by have := sl_sub hA hk; rwa [hxk] at this))
 have HSome := Lib.hid (fun (V : World) (A : Option Addr) (hA : SlAt V V.heap.size 5 A (z.eras.map erC)) => (show ∃ b o, A = some ⟨b, o, none⟩ from by obtain ⟨b, o, hh, _⟩ := hA (by simpa using e1); exact ⟨b, o, hh⟩))
 obtain ⟨W, hW⟩ : ∃ W, (w.alloc (.cells #[.slice AR rs.length cR, .slice AZ zs.length cZ, .slice AL ls.length cL] 26)).alloc (.cells #[.int .i64 0, .bool false, .string ⟨#[]⟩] 56) = W := ⟨_, rfl⟩
 rw [hW] at hb2 k1 k2
 have HB := Lib.hid hb2
 have HK := Lib.hid k1
 have HT := Lib.hid k2
 have HE := Lib.hid hE
 have HTy := Lib.hid hty
 obtain ⟨B, hBe⟩ : ∃ B, w.heap.size = B := ⟨_, rfl⟩
 have HBe := Lib.hid hBe
 obtain ⟨K, hK⟩ : ∃ K, eraI z.eras t = K := ⟨_, rfl⟩
 obtain ⟨N, hN⟩ : ∃ N, z.eras.length = N := ⟨_, rfl⟩
 have hKN : K < N := by rw [← hK, ← hN]; exact hk
 have hN7 : N ≤ 700 := by rw [← hN]; exact e2
 rw [hK] at HWh HXK
 rw [hN] at HC HWh
 clear hb1 hb2 k1 k2 H HI h hres hE hty hxk e1 e2 e3 e4 hx4 hK hN HRU
 go_enter Tryz.func18, Tryz.ntmps18
 go_upto_region 1 with fail
 have hb0 := HB.out
 have Hw0 := Lib.hid hBe
 rw [hBe] at HT HK
 have kr := HK.out.cell
 have kl := HK.out.lt
 clear hBe
 go_wp2_with fail
 refine (HC.out _ hb0).mono ?_
 rintro e w2 ⟨A2, c2, rfl, q1, q2, hS2, hb2⟩
 have hb3 := hb2.alloc hb2.size (.cells #[.string z.name, .slice A2 N c2] 75)
 replace HT := Lib.hid (HT.out.step hb3)
 replace HK := Lib.hid (HK.out.step hb3)
 have HZ := Lib.hid (Blk.new w2 #[.string z.name, .slice A2 N c2] 75)
 replace HB := Lib.hid (hb0.trans (hb3.mono hb0.size))
 have HA2 := Lib.hid ((hS2.below ((Below.refl _ _).alloc (Nat.le_refl _) (.cells #[.string z.name, .slice A2 N c2] 75))).more (show w2.heap.size ≤ (w2.alloc (.cells #[.string z.name, .slice A2 N c2] 75)).heap.size by simp))
 unfold maxLen at q2
 obtain ⟨b5, o5, rfl⟩ := HSome.out _ _ hS2
 clear hb2 hb3 kr kl hb0 HC hS2 HSome
 go_upto_region 2 with fail
 obtain ⟨V, hV⟩ : ∃ V, w2.alloc (.cells #[.string z.name, .slice (some ⟨b5, o5, none⟩) N c2] 75) = V := ⟨_, rfl⟩
 obtain ⟨gz, hgz⟩ : ∃ gz, w2.heap.size = gz := ⟨_, rfl⟩
 rw [hV] at HT HB HK HZ HA2 ⊢
 rw [hgz] at HZ ⊢
 clear hV hgz
 go_wp2_with fail
 refine (HST.out _ HB.out).mono ?_
 rintro e w4 ⟨rfl, hb4⟩
 replace HT := Lib.hid (HT.out.step hb4)
 replace HK := Lib.hid (HK.out.step hb4)
 replace HZ := Lib.hid (HZ.out.step hb4)
 replace HA2 := Lib.hid ((HA2.out.below hb4).more hb4.size)
 replace HB := Lib.hid (HB.out.trans (hb4.mono HB.out.size))
 clear hb4 HST
 obtain ⟨sv, hsv⟩ : ∃ sv, stV t = sv := ⟨_, rfl⟩
 obtain ⟨s, hs⟩ : ∃ s, stE t = s := ⟨_, rfl⟩
 rw [hsv, hs]
 rw [hs] at HE
 clear hsv hs
 by_cases h0 : s = 0
 ·subst h0
  have zr := HZ.out.cell
  have zl := HZ.out.lt
  have HW2 := Lib.hid (HWh.out _ c2 w4 HA2.out q1 (by unfold maxLen; exact q2))
  clear HWh
  go_wp2_with fail
  refine HW2.out.mono ?_
  rintro e w5 ⟨rfl, hb5⟩
  replace HT := Lib.hid (HT.out.step hb5)
  replace HK := Lib.hid (HK.out.step hb5)
  replace HZ := Lib.hid (HZ.out.step hb5)
  replace HA2 := Lib.hid ((HA2.out.below hb5).more hb5.size)
  replace HB := Lib.hid (HB.out.trans (hb5.mono HB.out.size))
  clear hb5 zr zl HW2
  have HX2 := Lib.hid (HXK.out _ _ _ HA2.out)
  clear HXK
  have hi1 : (0 : Int) ≤ (K : Int) := by omega
  have hi2 : (K : Int) ≤ (K : Int) + 1 := by omega
  have hi3 : (K : Int) + 1 ≤ (c2 : Int) := by omega
  have hi4 : (K : Int) ≤ (c2 : Int) := by omega
  have hck : ¬ c2 = K := by omega
  have hw1 : IntKind.i64.wrap ((K : Int) + 1) = (K : Int) + 1 := IntWalk.i64_in _ (by omega)
  have hS := show (∀ i, w5.cell? ⟨B, i, none⟩ = (#[.slice AR rs.length cR, .slice AZ zs.length cZ, .slice AL ls.length cL] : Array Value)[i]?) ∧ (∀ i, w5.cell? ⟨gz, i, none⟩ = (#[.string z.name, .slice (some ⟨b5, o5, none⟩) N c2] : Array Value)[i]?) ∧ B < w5.heap.size ∧ gz < w5.heap.size from ⟨HK.out.cell, HZ.out.cell, HK.out.lt, HZ.out.lt⟩
  go_upto_region 8 with fail
  have HC8 := Lib.hid (HEr.out (some ⟨b5, o5 + K * 5, none⟩) (c2 - K) w5.drew HB.out.drew HX2.out (by omega) (by unfold maxLen; omega))
  go_region_held3 (fun W' => (∀ i, W'.cell? ⟨B, i, none⟩ = (#[.slice AR rs.length cR, .slice AZ zs.length cZ, .slice AL ls.length cL] : Array Value)[i]?) ∧ (∀ i, W'.cell? ⟨gz, i, none⟩ = (#[.string z.name, .slice (some ⟨b5, o5, none⟩) N c2] : Array Value)[i]?) ∧ B < W'.heap.size ∧ gz < W'.heap.size)
   (first | exact ⟨hS.1, hS.2.1, hS.2.2.1, hS.2.2.2⟩ | (with_reducible exact hS8) | assumption)
   (first | (go_at_call 45; refine HC8.out.mono ?_; rintro e w8 ⟨A8, c8, n8, rfl, hz8, hb8⟩; have hS8 := keepZ hS ((Below.refl w5.heap.size w5).drew.trans hb8); have HP8 := Lib.hid (And.intro hz8 hb8)))
  clear hS HC8 HEr HX2 HA2 HZ HK
  have hb9 : Below w5.heap.size w5 w8 := (Below.refl w5.heap.size w5).drew.trans HP8.out.2
  replace HT := Lib.hid (HT.out.step hb9)
  replace HB := Lib.hid (HB.out.trans (hb9.mono HB.out.size))
  have HZ8 := Lib.hid HP8.out.1
  clear hb9 HP8 hz8 hb8
  obtain ⟨F, hF⟩ : ∃ F, trnE rs x = F := ⟨_, rfl⟩
  rw [hF] at HE HZ8 ⊢
  clear hF
  have hEF : E = F := by rw [HE.out, if_neg (by simp)]
  subst hEF
  by_cases hF0 : E = 0
  ·subst hF0
   have hTy := HTy.out
   rw [if_pos rfl] at hTy
   obtain ⟨h81, A', c', h82, h83, h84, h85⟩ := HZ8.out rfl
   obtain ⟨b9, o9, rfl, hb9, d0, d1, d2, d3, d4, d5, d6⟩ := h82
   have HC9 := Lib.hid (HTA.out A' c' w8 h83 h84 h85)
   rw [h81]
   obtain ⟨L, hL⟩ : ∃ L, (trnL rs x).length = L := ⟨_, rfl⟩
   obtain ⟨f, hf⟩ : ∃ f, fstL (trnL rs x) = f := ⟨_, rfl⟩
   obtain ⟨t1, t2, t3⟩ := ty
   rw [← hTy] at HC9
   rw [hL, hf] at HC9
   rw [hL] at d5
   rw [hf] at d6
   simp only at HC9
   clear hL hf hTy HTy HE HZ8 h81 h83 h84 h85 HTA
   have tr := HT.out.frz
   have tl := HT.out.lt
   have tc := HT.out.cell
   go_wp2_with fail
   clear d0 d1 d2 d3 d4 d5 d6
   refine HC9.out.mono ?_
   rintro e w9 ⟨rfl, hb10⟩
   replace HT := Lib.hid (HT.out.step hb10)
   replace HB := Lib.hid (HB.out.trans (hb10.mono HB.out.size))
   clear hb10 tr tl tc HC9
   have tr := HT.out.frz
   have tl := HT.out.lt
   have tc := HT.out.cell
   go_wp2_with fail
   have HF := Lib.hid (blk3 HT.out (x := .int .i64 t1) (y := .bool t2) (z := .string t3))
   have HBF := Lib.hid (show Below w.heap.size w (((w9.setCell ⟨B + 1, 0, none⟩ (.int .i64 t1)).setCell ⟨B + 1, 1, none⟩ (.bool t2)).setCell ⟨B + 1, 2, none⟩ (.string t3)) from below3 HB.out (by have := HBe.out; omega))
   obtain ⟨U, hU⟩ : ∃ U, (((w9.setCell ⟨B + 1, 0, none⟩ (.int .i64 t1)).setCell ⟨B + 1, 1, none⟩ (.bool t2)).setCell ⟨B + 1, 2, none⟩ (.string t3)) = U := ⟨_, rfl⟩
   rw [hU] at HF HBF ⊢
   have hf := HF.out.cell
   exact bodyPost_ret (v := .tuple #[.agg #[.int .i64 t1, .bool t2, .string t3], .int .i64 0]) (by simp [results, Tryz.results18, go_sem, hf]) rfl ⟨rfl, HBF.out⟩
  ·have hTy := HTy.out
   rw [if_neg hF0] at hTy
   subst hTy
   have h2 : (E != 0) = true := by rw [bne_iff_ne]; exact hF0
   have tr := HT.out.frz
   have tl := HT.out.lt
   have tc := HT.out.cell
   clear hF0 HTA HZ8 HE
   go_wp2_with fail
   have HF := Lib.hid (blk3 HT.out (x := .int .i64 0) (y := .bool false) (z := .string ⟨#[]⟩))
   have HBF := Lib.hid (show Below w.heap.size w (((w8.setCell ⟨B + 1, 0, none⟩ (.int .i64 0)).setCell ⟨B + 1, 1, none⟩ (.bool false)).setCell ⟨B + 1, 2, none⟩ (.string ⟨#[]⟩)) from below3 HB.out (by have := HBe.out; omega))
   obtain ⟨U, hU⟩ : ∃ U, (((w8.setCell ⟨B + 1, 0, none⟩ (.int .i64 0)).setCell ⟨B + 1, 1, none⟩ (.bool false)).setCell ⟨B + 1, 2, none⟩ (.string ⟨#[]⟩)) = U := ⟨_, rfl⟩
   rw [hU] at HF HBF ⊢
   have hf := HF.out.cell
   exact bodyPost_ret (v := .tuple #[.agg #[.int .i64 0, .bool false, .string ⟨#[]⟩], .int .i64 E]) (by simp [results, Tryz.results18, go_sem, hf]) rfl ⟨rfl, HBF.out⟩
 ·have hEs : E = s := by rw [HE.out, if_pos h0]
  have hTy := HTy.out
  rw [if_neg (by rw [hEs]; exact h0)] at hTy
  subst hTy
  subst hEs
  have h2 : (E != 0) = true := by rw [bne_iff_ne]; exact h0
  have tr := HT.out.frz
  have tl := HT.out.lt
  have tc := HT.out.cell
  clear h0 HTA HE HEr HWh HXK
  go_wp2_with fail
  have HF := Lib.hid (blk3 HT.out (x := .int .i64 0) (y := .bool false) (z := .string ⟨#[]⟩))
  have HBF := Lib.hid (show Below w.heap.size w (((w4.setCell ⟨B + 1, 0, none⟩ (.int .i64 0)).setCell ⟨B + 1, 1, none⟩ (.bool false)).setCell ⟨B + 1, 2, none⟩ (.string ⟨#[]⟩)) from below3 HB.out (by have := HBe.out; omega))
  obtain ⟨U, hU⟩ : ∃ U, (((w4.setCell ⟨B + 1, 0, none⟩ (.int .i64 0)).setCell ⟨B + 1, 1, none⟩ (.bool false)).setCell ⟨B + 1, 2, none⟩ (.string ⟨#[]⟩)) = U := ⟨_, rfl⟩
  rw [hU] at HF HBF ⊢
  have hf := HF.out.cell
  exact bodyPost_ret (v := .tuple #[.agg #[.int .i64 0, .bool false, .string ⟨#[]⟩], .int .i64 E]) (by simp [results, Tryz.results18, go_sem, hf]) rfl ⟨rfl, HBF.out⟩
end Go.Proofs.YthppifcggmdmoaaGreatDoor

namespace Go.Proofs.YthppifcggmdmoaaGreatDoor
open Go.RowKit
set_option linter.unusedVariables false
set_option linter.unusedSimpArgs false
theorem in_fl : ∀ xs : List Int, (xs.map inCells).flatten = xs.map (Value.int .i64)
 | [] => rfl
 | x :: l => by rw [List.map_cons, List.flatten_cons, in_fl l]; rfl
theorem own_is {W : World} {base : Nat} {v : Value} {O : List Int} (h : W.ownsRow base 3 1 v O.length (O.map (Value.int .i64))) :
  ∃ A cap, v = .slice A O.length cap ∧ O.length ≤ cap ∧ cap ≤ maxLen ∧ SlAt W W.heap.size 1 A (O.map inCells) := by
 have h' : W.ownsRow base 3 1 v (O.map inCells).length (O.map inCells).flatten := by rw [in_fl, List.length_map]; exact h
 obtain ⟨A, cap, a, b, c, d⟩ := own_at h' (by intro xs hx; obtain ⟨t, _, rfl⟩ := List.mem_map.1 hx; rfl)
 rw [List.length_map] at a b
 exact ⟨A, cap, a, b, c, d⟩
theorem stE_in {t : Int} (h1 : -11676096000 ≤ t) (h2 : t < 13569465600) : stE t = 0 := by
 have h3 : isTimeB t = true := by unfold isTimeB; simpa using ⟨h1, h2⟩
 rw [isTime_st] at h3
 exact of_decide_eq_true h3
theorem wall_make (AR AZ AL : Option Addr) (cR cZ cL : Nat) (rs : List RuT) (zs : List ZoT) (ls : List LkT) (nm : ByteArray) (hnm : nm.size ≤ maxLen) (F T : Int) (hF1 : -11676096000 ≤ F) (hFT : F < T) (hT2 : T < 13569465600) (w : World) (H : BkOk w w.heap.size ⟨AR, AZ, AL, cR, cZ, cL, rs, zs, ls⟩) (HI : EraIn w) :
  ∃ (E : Int) (s : NSt), (∀ V : World, Below w.heap.size w V → Calls Tryz.prog 15 #[.agg #[.slice AR rs.length cR, .slice AZ zs.length cZ, .slice AL ls.length cL], .string nm, .agg #[.int .i64 F, .int .i64 T]] V (TmPost E s V)) ∧
   (E = 0 → TabOk s.ts 0 s.cs ∧ ∀ t, F ≤ t → t < T → ∃ (d : Bool) (n : ByteArray), ∀ V : World, Below w.heap.size w V → Calls Tryz.prog 18 #[.agg #[.slice AR rs.length cR, .slice AZ zs.length cZ, .slice AL ls.length cL], .string nm, .int .i64 t] V fun e w' => e = .returned (.tuple #[.agg #[.int .i64 (offT s.ts 0 s.cs t), .bool d, .string n], .int .i64 0]) ∧ Below V.heap.size V w') := by
 have err : ∀ n : Int, n ≠ 0 → (bookE rs zs ls = n ∨ bookE rs zs ls = 0 ∧ rsV (res zs ls (ls.length + 1) nm) = .tuple #[zo0, .int .i64 n]) → ∃ (E : Int) (s : NSt), (∀ V : World, Below w.heap.size w V → Calls Tryz.prog 15 #[.agg #[.slice AR rs.length cR, .slice AZ zs.length cZ, .slice AL ls.length cL], .string nm, .agg #[.int .i64 F, .int .i64 T]] V (TmPost E s V)) ∧
   (E = 0 → TabOk s.ts 0 s.cs ∧ ∀ t, F ≤ t → t < T → ∃ (d : Bool) (n : ByteArray), ∀ V : World, Below w.heap.size w V → Calls Tryz.prog 18 #[.agg #[.slice AR rs.length cR, .slice AZ zs.length cZ, .slice AL ls.length cL], .string nm, .int .i64 t] V fun e w' => e = .returned (.tuple #[.agg #[.int .i64 (offT s.ts 0 s.cs t), .bool d, .string n], .int .i64 0]) ∧ Below V.heap.size V w') := fun n h0 hc => by
  refine ⟨n, nBegin default, fun V hb => ?_, fun h => absurd h h0⟩
  refine (m_Make_e AR AZ AL cR cZ cL rs zs ls nm hnm F T V (H.step hb) (HI.on hb) n h0 hc).mono ?_
  rintro e w' ⟨rfl, h⟩
  exact tm_bad h0 h
 by_cases h : bookE rs zs ls = 0
 ·cases hr : res zs ls (ls.length + 1) nm with
  | zone z =>
   have hz := res_mem hr
   obtain ⟨e1, _, e3, _⟩ := esOk_of h hz
   have sF := stE_in hF1 (by omega)
   have sT := stE_in (t := T) (by omega) hT2
   obtain ⟨E, hE⟩ : ∃ E : Int, E = if ersE rs z.eras ≠ 0 then ersE rs z.eras else if 250 < (tabS rs z.eras F T).ts.length ∨ 1000 < (tabS rs z.eras F T).cs.length then 2 else 0 := ⟨_, rfl⟩
   refine ⟨E, tabS rs z.eras F T, fun V hb => m_Make_z AR AZ AL cR cZ cL rs zs ls nm hnm F T V (H.step hb) (HI.on hb) (by omega) (by omega) (by omega) (by omega) z h hr E (tabS rs z.eras F T) (fun q => ?_) (fun _ _ _ d => by rw [hE, if_pos d]) (fun _ _ _ d => ⟨fun m h1 h2 h3 => tab_both e3 e1 m h1 h2 h3, by rw [hE, if_neg (fun q => q d)]⟩), fun h0 => ?_⟩
   ·exfalso
    rcases q with q | q | q
    ·exact q sF
    ·exact q sT
    ·omega
   ·have hers : ersE rs z.eras = 0 := Classical.byContradiction fun q => by rw [hE, if_pos q] at h0; exact q h0
    rw [hE, if_neg (fun q => q hers)] at h0
    have hlen : ¬ (250 < (tabS rs z.eras F T).ts.length ∨ 1000 < (tabS rs z.eras F T).cs.length) := fun q => by rw [if_pos q] at h0; cases h0
    refine ⟨tab_may h hz (by omega) (by omega) (by omega) (by omega), fun t t1 t2 => ?_⟩
    have hk := eraI_lt e3 e1 t
    have hst : stE t = 0 := stE_in (by omega) (by omega)
    have htr : trnE rs z.eras[eraI z.eras t] = 0 := by
     have := firE_inv hers (eraI z.eras t) hk
     rw [get_bang hk] at this
     exact this
    have hty : fT rs z.eras t = typeV z.eras[eraI z.eras t] (trnL rs z.eras[eraI z.eras t]) t := by
     unfold fT tT
     rw [get_bang hk]
    have hof : offT (tabS rs z.eras F T).ts 0 (tabS rs z.eras F T).cs t = (fT rs z.eras t).1 := by
     unfold offT
     rw [tab_says e3 e1 t1 t2]
    refine ⟨(fT rs z.eras t).2.1, (fT rs z.eras t).2.2, fun V hb => ?_⟩
    rw [hof]
    exact s_At_z AR AZ AL cR cZ cL rs zs ls nm hnm t V (H.step hb) (HI.on hb) (by omega) (by omega) z h hr z.eras[eraI z.eras t] ⟨hk, rfl⟩ 0 (by rw [if_neg (fun q => q hst), htr]) (fT rs z.eras t) (by rw [if_pos rfl, hty])
  | none => exact err 6 (by decide) (Or.inr ⟨h, by rw [hr]; rfl⟩)
  | loop => exact err 8 (by decide) (Or.inr ⟨h, by rw [hr]; rfl⟩)
 ·exact err _ h (Or.inl rfl)
set_option maxRecDepth 100000 in
set_option maxHeartbeats 1000000 in
theorem r_HasI (A : Option Addr) (cap : Nat) (l : List Int) (x : Int) (w : World) (hA : SlAt w w.heap.size 1 A (l.map inCells)) (h1 : l.length ≤ cap) (m1 : cap ≤ maxLen) (hx : x ∈ l) :
  Calls Tryz.prog 19 #[.slice A l.length cap, .int .i64 x] w fun e w' => e = .returned (.bool true) ∧ w = w' := by
 unfold maxLen at m1
 have HX := Lib.hid hx
 clear hx
 go_enter Tryz.func19, Tryz.ntmps19
 go_wp2_with fail
 go_loop [9] (fun i => ∃ k : Nat, k ≤ l.length ∧ i = .int .i64 k ∧ Hid (∀ j (hj : j < l.length), j < k → l[j] ≠ x)) (fun i => l.length - (intOf i).toNat)
 case atStart => exact ⟨0, Nat.zero_le _, rfl, Lib.hid (fun j hj h => absurd h (by omega))⟩
 case round =>
  obtain ⟨k, hk, rfl, HN⟩ := hrel
  by_cases hlt : k < l.length
  ·obtain ⟨b, o, rfl, hb, c0⟩ := in_at hA hlt
   have hi1 : (0 : Int) ≤ (k : Int) := by omega
   have hi2 : (k : Int) < (l.length : Int) := by omega
   have HG := Lib.hid (fun (h : l[k] ≠ x) j (hj : j < l.length) (h2 : j < k + 1) => (if h3 : j < k then HN.out j hj h3 else (by obtain rfl : j = k := (by omega); exact h) : l[j] ≠ x))
   obtain ⟨y, hy⟩ : ∃ y, l[k] = y := ⟨_, rfl⟩
   simp only [hy] at c0 HG
   clear hy HN
   by_cases he : y = x
   ·subst he
    clear HG
    go_wp2_with fail
    go_ret
    exact ⟨rfl, rfl⟩
   ·have HE2 := Lib.hid (HG.out he)
    have he1 : (y == x) = false := by rw [beq_eq_false_iff_ne]; exact he
    have he2 : (x == y) = false := by rw [beq_eq_false_iff_ne]; exact fun e => he e.symm
    clear HG he
    go_wp2_with fail
    exact ⟨⟨k + 1, by omega, by go_num, Lib.hid HE2.out⟩, by simp [intOf]; omega⟩
  ·exfalso
   obtain ⟨j, hj, e⟩ := List.getElem_of_mem HX.out
   exact HN.out j hj (by omega) e
end Go.Proofs.YthppifcggmdmoaaGreatDoor

