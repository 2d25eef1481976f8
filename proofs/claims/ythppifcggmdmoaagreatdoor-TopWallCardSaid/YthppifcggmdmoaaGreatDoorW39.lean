/- Part 39 of the proof of TopWall: no condition; what its declarations say stands at each. -/
import Derived.Test.YthppifcggmdmoaaGreatDoorW38
import Derived.Deep.CutRange
namespace Go.Proofs.YthppifcggmdmoaaGreatDoor
open Go.RowKit
set_option linter.unusedVariables false
set_option linter.unusedSimpArgs false
attribute [local go_sem ↓] Go.wp_at_zero Go.wp_at_succ
set_option maxRecDepth 100000 in
set_option maxHeartbeats 4000000 in
theorem m_Make_e (AR AZ AL : Option Addr) (cR cZ cL : Nat) (rs : List RuT) (zs : List ZoT) (ls : List LkT) (nm : ByteArray) (hnm : nm.size ≤ maxLen) (F T : Int) (w : World) (H : BkOk w w.heap.size ⟨AR, AZ, AL, cR, cZ, cL, rs, zs, ls⟩) (HI : EraIn w) (n : Int) (h0 : n ≠ 0) (hcase : bookE rs zs ls = n ∨ bookE rs zs ls = 0 ∧ rsV (res zs ls (ls.length + 1) nm) = .tuple #[zo0, .int .i64 n]) :
  Calls Tryz.prog 15 #[.agg #[.slice AR rs.length cR, .slice AZ zs.length cZ, .slice AL ls.length cL], .string nm, .agg #[.int .i64 F, .int .i64 T]] w fun e w' => e = .returned (.tuple #[.agg #[.slice none 0 0, .int .i64 0, .slice none 0 0], .int .i64 n]) ∧ Below w.heap.size w w' := by
 have hb1 := (Below.refl w.heap.size w).alloc (Nat.le_refl _) (.cells #[.slice AR rs.length cR, .slice AZ zs.length cZ, .slice AL ls.length cL] 26)
 have hb2 := hb1.alloc (by rw [size_alloc]; omega) (.cells #[.int .i64 F, .int .i64 T] 47)
 have hb3 := hb2.alloc (by rw [size_alloc, size_alloc]; omega) (.cells #[.slice none 0 0, .int .i64 0, .slice none 0 0] 37)
 have k1 := ((Blk.new w #[.slice AR rs.length cR, .slice AZ zs.length cZ, .slice AL ls.length cL] 26).alloc (.cells #[.int .i64 F, .int .i64 T] 47)).alloc (.cells #[.slice none 0 0, .int .i64 0, .slice none 0 0] 37)
 have k2 := (Blk.new (w.alloc (.cells #[.slice AR rs.length cR, .slice AZ zs.length cZ, .slice AL ls.length cL] 26)) #[.int .i64 F, .int .i64 T] 47).alloc (.cells #[.slice none 0 0, .int .i64 0, .slice none 0 0] 37)
 have k3 := Blk.new ((w.alloc (.cells #[.slice AR rs.length cR, .slice AZ zs.length cZ, .slice AL ls.length cL] 26)).alloc (.cells #[.int .i64 F, .int .i64 T] 47)) #[.slice none 0 0, .int .i64 0, .slice none 0 0] 37
 rw [size_alloc] at k2
 rw [size_alloc, size_alloc] at k3
 have HC := Lib.hid (fun (V : World) (hb : Below w.heap.size w V) => (show Calls Tryz.prog 43 #[.agg #[.slice AR rs.length cR, .slice AZ zs.length cZ, .slice AL ls.length cL], .string nm] V fun e w' => e = .returned (.tuple #[.agg #[.string ⟨#[]⟩, .slice none 0 0], .int .i64 n]) ∧ Below V.heap.size V w' from by
  rcases hcase with h1 | ⟨h1, h2⟩
  ·exact n_Resolve_no AR AZ AL cR cZ cL rs zs ls nm hnm V (H.step hb) (HI.on hb) n h1 h0
  ·exact n_Resolve_e AR AZ AL cR cZ cL rs zs ls nm hnm V (H.step hb) (HI.on hb) h1 n h2))
 obtain ⟨W, hW⟩ : ∃ W, ((w.alloc (.cells #[.slice AR rs.length cR, .slice AZ zs.length cZ, .slice AL ls.length cL] 26)).alloc (.cells #[.int .i64 F, .int .i64 T] 47)).alloc (.cells #[.slice none 0 0, .int .i64 0, .slice none 0 0] 37) = W := ⟨_, rfl⟩
 rw [hW] at hb3 k1 k2 k3
 have HB := Lib.hid hb3
 have HK := Lib.hid k1
 have HS := Lib.hid k2
 have HT := Lib.hid k3
 obtain ⟨B, hBe⟩ : ∃ B, w.heap.size = B := ⟨_, rfl⟩
 have HBe := Lib.hid hBe
 have h2 : (n != 0) = true := by rw [bne_iff_ne]; exact h0
 clear hb1 hb2 hb3 k1 k2 k3 H HI hcase h0
 go_enter Tryz.func15, Tryz.ntmps15
 go_upto_region 2 with fail
 have hb0 := HB.out
 rw [hBe] at HT HK HS
 have kr := HK.out.cell
 have kl := HK.out.lt
 clear hBe
 go_wp2_with fail
 refine (HC.out _ hb0).mono ?_
 rintro e w2 ⟨rfl, hb2⟩
 have hb3 := hb2.alloc hb2.size (.cells #[.string ⟨#[]⟩, .slice none 0 0] 75)
 replace HT := Lib.hid (HT.out.step hb3)
 replace HB := Lib.hid (HB.out.trans (hb3.mono HB.out.size))
 clear hb2 hb3 kr kl hb0 HC HK
 go_upto_region 3 with fail
 obtain ⟨V, hV⟩ : ∃ V, w2.alloc (.cells #[.string ⟨#[]⟩, .slice none 0 0] 75) = V := ⟨_, rfl⟩
 rw [hV] at HT HB ⊢
 clear hV
 go_wp2_with fail
 refine (t_none n V).mono ?_
 rintro e wn ⟨rfl, hbn⟩
 have HTn := Lib.hid (HT.out.step hbn)
 have HBn := Lib.hid (HB.out.trans (hbn.mono HB.out.size))
 clear hbn
 have tr := HTn.out.frz
 have tl := HTn.out.lt
 have tc := HTn.out.cell
 go_wp2_with fail
 have HF := Lib.hid (blk3 HTn.out (x := .slice none 0 0) (y := .int .i64 0) (z := .slice none 0 0))
 have HBF := Lib.hid (show Below w.heap.size w (((wn.setCell ⟨B + 1 + 1, 0, none⟩ (.slice none 0 0)).setCell ⟨B + 1 + 1, 1, none⟩ (.int .i64 0)).setCell ⟨B + 1 + 1, 2, none⟩ (.slice none 0 0)) from below3 HBn.out (by have := HBe.out; omega))
 obtain ⟨U, hU⟩ : ∃ U, (((wn.setCell ⟨B + 1 + 1, 0, none⟩ (.slice none 0 0)).setCell ⟨B + 1 + 1, 1, none⟩ (.int .i64 0)).setCell ⟨B + 1 + 1, 2, none⟩ (.slice none 0 0)) = U := ⟨_, rfl⟩
 rw [hU] at HF HBF ⊢
 have hf := HF.out.cell
 exact bodyPost_ret (v := .tuple #[.agg #[.slice none 0 0, .int .i64 0, .slice none 0 0], .int .i64 n]) (by simp [results, Tryz.results15, go_sem, hf]) rfl ⟨rfl, HBF.out⟩
set_option maxRecDepth 100000 in
set_option maxHeartbeats 16000000 in
theorem m_Make_z (AR AZ AL : Option Addr) (cR cZ cL : Nat) (rs : List RuT) (zs : List ZoT) (ls : List LkT) (nm : ByteArray) (hnm : nm.size ≤ maxLen) (F T : Int) (w : World) (H : BkOk w w.heap.size ⟨AR, AZ, AL, cR, cZ, cL, rs, zs, ls⟩) (HI : EraIn w) (hF1 : -9223372036854775808 ≤ F) (hF2 : F ≤ 9223372036854775807) (hT1 : -9223372036854775808 ≤ T) (hT2 : T ≤ 9223372036854775807) (z : ZoT) (h : bookE rs zs ls = 0) (hres : res zs ls (ls.length + 1) nm = .zone z) (E : Int) (s : NSt)
  (hE1 : stE F ≠ 0 ∨ stE T ≠ 0 ∨ T ≤ F → E = 1) (hE2 : stE F = 0 → stE T = 0 → F < T → ersE rs z.eras ≠ 0 → E = ersE rs z.eras)
  (hOK : stE F = 0 → stE T = 0 → F < T → ersE rs z.eras = 0 → (∀ m, eraI z.eras F + m + 1 ≤ z.eras.length → (∀ j, j < m → z.eras[eraI z.eras F + j]!.until_ < T) → (eraI z.eras F + m + 1 = z.eras.length ∨ T ≤ z.eras[eraI z.eras F + m]!.until_) → s = nBuild (fT rs z.eras F) (prgL rs z.eras F T (eraI z.eras F) (m + 1))) ∧ E = if 250 < s.ts.length ∨ 1000 < s.cs.length then 2 else 0) :
  Calls Tryz.prog 15 #[.agg #[.slice AR rs.length cR, .slice AZ zs.length cZ, .slice AL ls.length cL], .string nm, .agg #[.int .i64 F, .int .i64 T]] w (TmPost E s w) := by
 have hb1 := (Below.refl w.heap.size w).alloc (Nat.le_refl _) (.cells #[.slice AR rs.length cR, .slice AZ zs.length cZ, .slice AL ls.length cL] 26)
 have hb2 := hb1.alloc (by rw [size_alloc]; omega) (.cells #[.int .i64 F, .int .i64 T] 47)
 have hb3 := hb2.alloc (by rw [size_alloc, size_alloc]; omega) (.cells #[.slice none 0 0, .int .i64 0, .slice none 0 0] 37)
 have k1 := ((Blk.new w #[.slice AR rs.length cR, .slice AZ zs.length cZ, .slice AL ls.length cL] 26).alloc (.cells #[.int .i64 F, .int .i64 T] 47)).alloc (.cells #[.slice none 0 0, .int .i64 0, .slice none 0 0] 37)
 have k2 := (Blk.new (w.alloc (.cells #[.slice AR rs.length cR, .slice AZ zs.length cZ, .slice AL ls.length cL] 26)) #[.int .i64 F, .int .i64 T] 47).alloc (.cells #[.slice none 0 0, .int .i64 0, .slice none 0 0] 37)
 have k3 := Blk.new ((w.alloc (.cells #[.slice AR rs.length cR, .slice AZ zs.length cZ, .slice AL ls.length cL] 26)).alloc (.cells #[.int .i64 F, .int .i64 T] 47)) #[.slice none 0 0, .int .i64 0, .slice none 0 0] 37
 rw [size_alloc] at k2
 rw [size_alloc, size_alloc] at k3
 have hEs := esOk_of h (res_mem hres)
 obtain ⟨e1, e2, e3, e4⟩ := hEs
 have HRU := Lib.hid (rub_of_book h)
 have HC := Lib.hid (fun (V : World) (hb : Below w.heap.size w V) => n_Resolve_z AR AZ AL cR cZ cL rs zs ls nm hnm V (H.step hb) (HI.on hb) h z hres)
 have HST := Lib.hid (fun (t : Int) (ht1 : -9223372036854775808 ≤ t) (ht2 : t ≤ 9223372036854775807) (V : World) (hb : Below w.heap.size w V) => k_Stamp t ht1 ht2 V (HI.on hb))
 have HWh := Lib.hid (fun (A : Option Addr) (c : Nat) (V : World) (hA : SlAt V V.heap.size 5 A (z.eras.map erC)) (hc : z.eras.length ≤ c) (hm : c ≤ maxLen) => s_Which A c z.eras F V hA hc hm e3 (by omega) e1)
 have HEr := Lib.hid (fun (A : Option Addr) (c : Nat) (V : World) (hb : Below w.heap.size w V) (hA : SlAt V V.heap.size 5 A (z.eras.map erC)) (hc : z.eras.length ≤ c) (hm : c ≤ maxLen) => s_Eras AR AZ AL A cR zs.length cZ ls.length cL c rs z.name z.eras V (H.step hb).R (H.step hb).hR (H.step hb).mR (bookE_inv h).1.1 HRU.out hA hc hm e2 (by intro x hx; have := e4 x hx; omega))
 have HRO := Lib.hid H.rs
 have HUb := Lib.hid (es_until h (res_mem hres))
 have HE4 := Lib.hid (And.intro e1 (And.intro e3 e4))
 obtain ⟨W, hW⟩ : ∃ W, ((w.alloc (.cells #[.slice AR rs.length cR, .slice AZ zs.length cZ, .slice AL ls.length cL] 26)).alloc (.cells #[.int .i64 F, .int .i64 T] 47)).alloc (.cells #[.slice none 0 0, .int .i64 0, .slice none 0 0] 37) = W := ⟨_, rfl⟩
 rw [hW] at hb3 k1 k2 k3
 have HB := Lib.hid hb3
 have HK := Lib.hid k1
 have HS := Lib.hid k2
 have HT := Lib.hid k3
 obtain ⟨B, hBe⟩ : ∃ B, w.heap.size = B := ⟨_, rfl⟩
 have HBe := Lib.hid hBe
 have HE1 := Lib.hid hE1
 have HE2 := Lib.hid hE2
 have HOK := Lib.hid hOK
 have HRg := Lib.hid (And.intro (And.intro hF1 hF2) (And.intro hT1 hT2))
 obtain ⟨N, hN⟩ : ∃ N, z.eras.length = N := ⟨_, rfl⟩
 have HN := Lib.hid hN
 have hN7 : N ≤ 700 := by rw [← hN]; exact e2
 have hN1 : 0 < N := by rw [← hN]; exact e1
 rw [hN] at HC HWh HEr
 clear hb1 hb2 hb3 k1 k2 k3 H HI h hres hE1 hE2 hOK hF1 hF2 hT1 hT2 e1 e2 e3 e4 hN
 go_enter Tryz.func15, Tryz.ntmps15
 go_upto_region 2 with fail
 have hb0 := HB.out
 rw [hBe] at HT HK HS
 have kr := HK.out.cell
 have kl := HK.out.lt
 clear hBe
 go_wp2_with fail
 refine (HC.out _ hb0).mono ?_
 rintro e w2 ⟨A2, c2, rfl, q1, q2, hS2, hb2⟩
 obtain ⟨b5, o5, rfl⟩ : ∃ b o, A2 = some ⟨b, o, none⟩ := by
  obtain ⟨b, o, hh, _⟩ := hS2 (by rw [List.length_map, HN.out]; exact hN1)
  exact ⟨b, o, hh⟩
 have hb3 := hb2.alloc hb2.size (.cells #[.string z.name, .slice (some ⟨b5, o5, none⟩) N c2] 75)
 have HW := Lib.hid (TmW.mk (HK.out.step hb3) (HS.out.step hb3) (HT.out.step hb3) (Blk.new w2 #[.string z.name, .slice (some ⟨b5, o5, none⟩) N c2] 75) ((hS2.below ((Below.refl _ _).alloc (Nat.le_refl _) (.cells #[.string z.name, .slice (some ⟨b5, o5, none⟩) N c2] 75))).more (show w2.heap.size ≤ (w2.alloc (.cells #[.string z.name, .slice (some ⟨b5, o5, none⟩) N c2] 75)).heap.size by simp)) (hb0.trans (hb3.mono hb0.size)))
 unfold maxLen at q2
 clear hb2 hb3 kr kl hb0 HC hS2 HK HS HT HB
 go_upto_region 3 with fail
 obtain ⟨V, hV⟩ : ∃ V, w2.alloc (.cells #[.string z.name, .slice (some ⟨b5, o5, none⟩) N c2] 75) = V := ⟨_, rfl⟩
 obtain ⟨gz, hgz⟩ : ∃ gz, w2.heap.size = gz := ⟨_, rfl⟩
 rw [hV] at HW
 rw [hgz] at HW
 rw [hV, hgz]
 clear hV hgz
 have sr := HW.out.S.cell
 have sl := HW.out.S.lt
 go_wp2_with fail
 clear sr sl
 have hV5 := (Below.refl V.heap.size V).alloc (Nat.le_refl _) (.cells #[.int .i64 F, .int .i64 T] 3)
 have HL := Lib.hid (Blk.new V #[.int .i64 F, .int .i64 T] 3)
 replace HW := Lib.hid (HW.out.step hV5)
 clear hV5
 obtain ⟨V1, hV1⟩ : ∃ V1, V.alloc (.cells #[.int .i64 F, .int .i64 T] 3) = V1 := ⟨_, rfl⟩
 obtain ⟨gl, hgl⟩ : ∃ gl, V.heap.size = gl := ⟨_, rfl⟩
 rw [hV1] at HW HL ⊢
 rw [hgl] at HL ⊢
 clear hV1 hgl
 go_loopw [41] (fun i wr => ∃ k : Nat, k ≤ 2 ∧ i = .int .i64 k ∧ Hid ((0 < k → stE F = 0) ∧ (1 < k → stE T = 0)) ∧ Hid (TmW w wr B gz #[.slice AR rs.length cR, .slice AZ zs.length cZ, .slice AL ls.length cL] #[.int .i64 F, .int .i64 T] #[.string z.name, .slice (some ⟨b5, o5, none⟩) N c2] (some ⟨b5, o5, none⟩) z.eras) ∧ Hid (Blk wr gl 3 #[.int .i64 F, .int .i64 T])) (fun i _ => 2 - (intOf i).toNat)
 case atStart => exact ⟨0, by omega, rfl, Lib.hid ⟨fun h => absurd h (by omega), fun h => absurd h (by omega)⟩, HW, HL⟩
 case round =>
  clear HW HL
  obtain ⟨k, hk, rfl, HSk, HW, HL⟩ := hrel
  by_cases hlt : k < 2
  ·obtain ⟨X, hX⟩ : ∃ X, (if k = 0 then F else T) = X := ⟨_, rfl⟩
   have lc : wr.cell? ⟨gl, k, none⟩ = some (.int .i64 X) := by
    rw [HL.out.cell k, ← hX]
    rcases (show k = 0 ∨ k = 1 by omega) with rfl | rfl <;> rfl
   have HSX := Lib.hid (show (stE X ≠ 0 → E = 1) ∧ (stE X = 0 → (0 < k + 1 → stE F = 0) ∧ (1 < k + 1 → stE T = 0)) by
    rw [← hX]
    rcases (show k = 0 ∨ k = 1 by omega) with rfl | rfl
    ·exact ⟨fun h => HE1.out (Or.inl h), fun h => ⟨fun _ => h, fun h2 => absurd h2 (by omega)⟩⟩
    ·exact ⟨fun h => HE1.out (Or.inr (Or.inl h)), fun h => ⟨fun _ => HSk.out.1 (by omega), fun _ => h⟩⟩)
   have HCS := Lib.hid (HST.out X (by rw [← hX]; split; exact HRg.out.1.1; exact HRg.out.2.1) (by rw [← hX]; split; exact HRg.out.1.2; exact HRg.out.2.2) wr HW.out.L)
   have hi1 : (0 : Int) ≤ (k : Int) := by omega
   have hi2 : (k : Int) < 2 := by omega
   have ll := HL.out.lt
   have HS01 := Lib.hid (show stE X = 0 ∨ stE X = 1 from by rw [stE]; split <;> simp)
   clear hX HSk
   go_wp2_with fail
   refine HCS.out.mono ?_
   rintro e w4 ⟨rfl, hb4⟩
   replace HW := Lib.hid (HW.out.step hb4)
   replace HL := Lib.hid (HL.out.step hb4)
   obtain ⟨sv, hsv⟩ : ∃ sv, stV X = sv := ⟨_, rfl⟩
   obtain ⟨sx, hsx⟩ : ∃ sx, stE X = sx := ⟨_, rfl⟩
   rw [hsv, hsx]
   rw [hsx] at HSX HS01
   clear hb4 HCS lc ll hsv hsx
   by_cases h0 : sx = 0
   ·subst h0
    have HS2 := Lib.hid (HSX.out.2 rfl)
    clear HSX HS01
    go_wp2_with fail
    exact ⟨⟨k + 1, by omega, by go_num, HS2, HW, HL⟩, by simp only [intOf]; omega⟩
   ·have hs1 : sx = 1 := by rcases HS01.out with h | h; exact absurd h h0; exact h
    have HEE := Lib.hid (HSX.out.1 h0)
    subst hs1
    clear h0 HSX HS01
    go_wp2_with fail
    refine (t_none 1 w4).mono ?_
    rintro e wn ⟨rfl, hbn⟩
    have HTn := Lib.hid (HW.out.T.step hbn)
    have HBn := Lib.hid (HW.out.L.trans (hbn.mono HW.out.L.size))
    clear hbn
    have tr := HTn.out.frz
    have tl := HTn.out.lt
    have tc := HTn.out.cell
    go_wp2_with fail
    have HF := Lib.hid (blk3 HTn.out (x := .slice none 0 0) (y := .int .i64 0) (z := .slice none 0 0))
    have HBF := Lib.hid (show Below w.heap.size w (((wn.setCell ⟨B + 1 + 1, 0, none⟩ (.slice none 0 0)).setCell ⟨B + 1 + 1, 1, none⟩ (.int .i64 0)).setCell ⟨B + 1 + 1, 2, none⟩ (.slice none 0 0)) from below3 HBn.out (by have := HBe.out; omega))
    obtain ⟨U, hU⟩ : ∃ U, (((wn.setCell ⟨B + 1 + 1, 0, none⟩ (.slice none 0 0)).setCell ⟨B + 1 + 1, 1, none⟩ (.int .i64 0)).setCell ⟨B + 1 + 1, 2, none⟩ (.slice none 0 0)) = U := ⟨_, rfl⟩
    rw [hU] at HF HBF ⊢
    have hf := HF.out.cell
    exact bodyPost_ret (v := .tuple #[.agg #[.slice none 0 0, .int .i64 0, .slice none 0 0], .int .i64 1]) (by simp [results, Tryz.results15, go_sem, hf]) rfl (by have he := HEE.out; subst he; exact tm_bad (by decide) HBF.out)
  ·obtain rfl : k = 2 := by omega
   have HF0 := Lib.hid (And.intro (HSk.out.1 (by omega)) (HSk.out.2 (by omega)))
   have sr := HW.out.S.cell
   have sl := HW.out.S.lt
   clear HSk HL HST
   by_cases hTF : T ≤ F
   ·have HEE := Lib.hid (HE1.out (Or.inr (Or.inr hTF)))
    go_wp2_with fail
    refine (t_none 1 wr).mono ?_
    rintro e wn ⟨rfl, hbn⟩
    have HTn := Lib.hid (HW.out.T.step hbn)
    have HBn := Lib.hid (HW.out.L.trans (hbn.mono HW.out.L.size))
    clear hbn
    have tr := HTn.out.frz
    have tl := HTn.out.lt
    have tc := HTn.out.cell
    go_wp2_with fail
    have HF := Lib.hid (blk3 HTn.out (x := .slice none 0 0) (y := .int .i64 0) (z := .slice none 0 0))
    have HBF := Lib.hid (show Below w.heap.size w (((wn.setCell ⟨B + 1 + 1, 0, none⟩ (.slice none 0 0)).setCell ⟨B + 1 + 1, 1, none⟩ (.int .i64 0)).setCell ⟨B + 1 + 1, 2, none⟩ (.slice none 0 0)) from below3 HBn.out (by have := HBe.out; omega))
    obtain ⟨U, hU⟩ : ∃ U, (((wn.setCell ⟨B + 1 + 1, 0, none⟩ (.slice none 0 0)).setCell ⟨B + 1 + 1, 1, none⟩ (.int .i64 0)).setCell ⟨B + 1 + 1, 2, none⟩ (.slice none 0 0)) = U := ⟨_, rfl⟩
    rw [hU] at HF HBF ⊢
    have hf := HF.out.cell
    exact bodyPost_ret (v := .tuple #[.agg #[.slice none 0 0, .int .i64 0, .slice none 0 0], .int .i64 1]) (by simp [results, Tryz.results15, go_sem, hf]) rfl (by have he := HEE.out; subst he; exact tm_bad (by decide) HBF.out)
   ·have hFT : F < T := by omega
    have kr := HW.out.K.cell
    have kl := HW.out.K.lt
    have zr := HW.out.Z.cell
    have zl := HW.out.Z.lt
    have HCE := Lib.hid (HEr.out _ c2 wr HW.out.L HW.out.E q1 (by unfold maxLen; exact q2))
    clear HEr
    go_wp2_with fail
    refine HCE.out.mono ?_
    rintro e w5 ⟨A5, c5, Z, rfl, z1, z2, z3, z4, z5, hb5⟩
    replace HW := Lib.hid (HW.out.step hb5)
    have HZ := Lib.hid (show ErZ w5 A5 Z from ⟨z2, z5⟩)
    have HZM := Lib.hid z1
    clear hb5 HCE sr sl kr kl zr zl z1 z2 z5
    obtain ⟨EE, hEE⟩ : ∃ EE, ersE rs z.eras = EE := ⟨_, rfl⟩
    rw [hEE] at HZM HE2 HOK ⊢
    clear hEE
    by_cases hE0 : EE = 0
    ·subst hE0
     have HZM2 := Lib.hid (show Z.map (fun z => (z.1, z.2.2.2)) = z.eras.map fun x => (x, trnL rs x) by rw [HZM.out, if_pos rfl])
     have hZl : Z.length = N := by have := congrArg List.length HZM2.out; rw [← HN.out]; simpa using this
     obtain ⟨b6, o6, rfl⟩ : ∃ b o, A5 = some ⟨b, o, none⟩ := by
      obtain ⟨b, o, hh, _⟩ := HZ.out.1 (by rw [List.length_map, hZl]; exact hN1)
      exact ⟨b, o, hh⟩
     rw [hZl] at z3 ⊢
     clear hZl HZM HE2 HE1
     have HW5 := Lib.hid (HWh.out _ c2 w5 HW.out.E q1 (by unfold maxLen; exact q2))
     have zr := HW.out.Z.cell
     have zl := HW.out.Z.lt
     have sr := HW.out.S.cell
     have sl := HW.out.S.lt
     clear HWh
     go_wp2_with fail
     refine HW5.out.mono ?_
     rintro e w6 ⟨rfl, hb6⟩
     replace HW := Lib.hid (HW.out.step hb6)
     replace HZ := Lib.hid (HZ.out.step hb6)
     clear hb6 zr zl sr sl HW5
     have HCl := Lib.hid (fun (k : Nat) (hk : k < N) (V : World) (hV : ErZ V (some ⟨b6, o6, none⟩) Z) => erz_cells hV HZM2.out (k := k) (by rw [HN.out]; exact hk))
     have HAt := Lib.hid (fun (k : Nat) (hk : k < N) (t : Int) (V : World) (hV : ErZ V (some ⟨b6, o6, none⟩) Z) => (show Calls Tryz.prog 48 #[.agg (trdA z.eras[k]! (zA Z k) (trnL rs z.eras[k]!).length (zc Z k) (fstL (trnL rs z.eras[k]!))), .int .i64 t] V fun e w' => e = .returned (tyV (tT rs z.eras k t)) ∧ Below V.heap.size V w' from by
      obtain ⟨_, _, _, _, _, _, _, _, h7, h8, h9⟩ := HCl.out k hk V hV
      have hx4 := HE4.out.2.2 z.eras[k]! (by rw [get_bang (by rw [HN.out]; exact hk)]; exact List.getElem_mem _)
      exact s_TAt z.eras[k]! (zA Z k) (zc Z k) (trnL rs z.eras[k]!) t V h7 h8 h9 (trnL_sorted rs _) (trnL_len rs _) (trn_ok HRU.out HRO.out _ (by omega) (by omega)) hx4.2 (by omega)))
     obtain ⟨KI, hKI⟩ : ∃ KI, eraI z.eras F = KI := ⟨_, rfl⟩
     have hKN : KI < N := by have := (eraI_spec HE4.out.2.1 F).1; rw [hKI, HN.out] at this; omega
     have HfT := Lib.hid (show fT rs z.eras F = tT rs z.eras KI F by unfold fT; rw [hKI])
     rw [hKI] at HOK ⊢
     have HKI := Lib.hid hKI
     clear hKI
     obtain ⟨x0, hx0⟩ : ∃ x0, z.eras[KI]! = x0 := ⟨_, rfl⟩
     obtain ⟨ty0, hty0⟩ : ∃ ty0, tT rs z.eras KI F = ty0 := ⟨_, rfl⟩
     obtain ⟨L0, hL0⟩ : ∃ L0, (trnL rs x0).length = L0 := ⟨_, rfl⟩
     obtain ⟨f0, hf0⟩ : ∃ f0, fstL (trnL rs x0) = f0 := ⟨_, rfl⟩
     obtain ⟨a0, ha0⟩ : ∃ a0, zA Z KI = a0 := ⟨_, rfl⟩
     obtain ⟨d0, hd0⟩ : ∃ d0, zc Z KI = d0 := ⟨_, rfl⟩
     have HC0 := Lib.hid (fun (V : World) (hb : Below w6.heap.size w6 V) => (by have := HCl.out KI hKN V (HZ.out.step hb); rw [hx0, hL0, hf0, ha0, hd0] at this; exact this : b6 < V.heap.size ∧ V.cell? ⟨b6, o6 + KI * 7, none⟩ = some (.int .i64 x0.off) ∧ V.cell? ⟨b6, o6 + KI * 7 + 1, none⟩ = some (.string x0.rules) ∧ V.cell? ⟨b6, o6 + KI * 7 + 2, none⟩ = some (.int .i64 x0.save) ∧ V.cell? ⟨b6, o6 + KI * 7 + 3, none⟩ = some (.string x0.format) ∧ V.cell? ⟨b6, o6 + KI * 7 + 4, none⟩ = some (.int .i64 x0.until_) ∧ V.cell? ⟨b6, o6 + KI * 7 + 5, none⟩ = some (.slice a0 L0 d0) ∧ V.cell? ⟨b6, o6 + KI * 7 + 6, none⟩ = some (.string f0) ∧ SlAt V V.heap.size 3 a0 ((trnL rs x0).map tuCells) ∧ L0 ≤ d0 ∧ d0 ≤ maxLen))
     have HA0 := Lib.hid (fun (V : World) (hb : Below w6.heap.size w6 V) => (by have := HAt.out KI hKN F V (HZ.out.step hb); rw [hx0, hL0, hf0, ha0, hd0, hty0] at this; exact this : Calls Tryz.prog 48 #[.agg (trdA x0 a0 L0 d0 f0), .int .i64 F] V fun e w' => e = .returned (tyV ty0) ∧ Below V.heap.size V w'))
     rw [hty0] at HfT
     clear hx0 hty0 hL0 hf0 ha0 hd0
     have hi1 : (0 : Int) ≤ (KI : Int) := by omega
     have hi2 : (KI : Int) < (N : Int) := by omega
     go_upto_region 18 with fail
     refine wp_region_noPanic ?_
     refine wp_region_held_drew (S := fun W' : World => Below w6.heap.size w6 W') (by kernel_rfl) (Below.refl _ _).drew (fun hHeld0 => ?_)
     have hHeld : Below w6.heap.size w6 w6.drew := hHeld0
     clear hHeld0
     refine wpAnyH_take (i := 0) (v := ?_) rfl (by kernel_rfl) (by kernel_rfl) (by kernel_rfl) (fun _ _ _ h => h) (Or.inl ⟨by rfl, ?_⟩) hHeld ?_
     rotate_left
     ·intro wq hSw
      go_simp
      try with_reducible rfl
     try simp only [Act.put, List.getElem_toArray, List.getElem_cons_succ, List.getElem_cons_zero, List.setIfInBounds_toArray, List.set_cons_zero, List.set_cons_succ]
     refine wpAnyH_take (i := 1) (v := ?_) rfl (by kernel_rfl) (by kernel_rfl) (by kernel_rfl) (fun _ _ _ h => h) (Or.inl ⟨by rfl, ?_⟩) hHeld ?_
     rotate_left
     ·intro wq hSw
      go_simp
      try with_reducible rfl
     try simp only [Act.put, List.getElem_toArray, List.getElem_cons_succ, List.getElem_cons_zero, List.setIfInBounds_toArray, List.set_cons_zero, List.set_cons_succ]
     refine wpAnyH_take (i := 2) (v := ?_) rfl (by kernel_rfl) (by kernel_rfl) (by kernel_rfl) (fun _ _ _ h => h) (Or.inl ⟨by rfl, ?_⟩) hHeld ?_
     rotate_left
     ·intro wq hSw
      go_simp
      try with_reducible rfl
     try simp only [Act.put, List.getElem_toArray, List.getElem_cons_succ, List.getElem_cons_zero, List.setIfInBounds_toArray, List.set_cons_zero, List.set_cons_succ]
     refine wpAnyH_take (i := 3) (v := ?_) rfl (by kernel_rfl) (by kernel_rfl) (by kernel_rfl) (fun _ _ _ h => h) (Or.inl ⟨by rfl, ?_⟩) hHeld ?_
     rotate_left
     ·intro wq hSw
      obtain ⟨_, c0, c1, c2, c3, c4, c5, c6, _, _, _⟩ := HC0.out _ hSw
      go_simp
      try with_reducible rfl
     try simp only [Act.put, List.getElem_toArray, List.getElem_cons_succ, List.getElem_cons_zero, List.setIfInBounds_toArray, List.set_cons_zero, List.set_cons_succ]
     refine wpAnyH_take (i := 4) (v := ?_) rfl (by kernel_rfl) (by kernel_rfl) (by kernel_rfl) (fun _ _ _ h => h) (Or.inl ⟨by rfl, ?_⟩) hHeld ?_
     rotate_left
     ·intro wq hSw
      go_simp
      try with_reducible rfl
     try simp only [Act.put, List.getElem_toArray, List.getElem_cons_succ, List.getElem_cons_zero, List.setIfInBounds_toArray, List.set_cons_zero, List.set_cons_succ]
     refine wpAnyH_take (i := 5) (v := ?_) rfl (by kernel_rfl) (by kernel_rfl) (by kernel_rfl) (fun _ _ _ h => h) (Or.inl ⟨by rfl, ?_⟩) hHeld ?_
     rotate_left
     ·intro wq hSw
      have sc := (HW.out.S.step hSw).cell
      go_simp
      try with_reducible rfl
     try simp only [Act.put, List.getElem_toArray, List.getElem_cons_succ, List.getElem_cons_zero, List.setIfInBounds_toArray, List.set_cons_zero, List.set_cons_succ]
     refine wpAnyH_ready (rs := [6]) (by kernel_rfl) (by simp) ?_
     refine AllReadyH.cons rfl (fun K hK => ?_) AllReadyH.nil
     go_simp
     go_at_call 48
     refine (HA0.out _ hHeld).mono ?_
     rintro e w8 ⟨rfl, hb8⟩
     have hS8 := hHeld.trans (hb8.mono hHeld.size)
     try go_wp2_with fail
     refine hK.out _ _ hS8 (fun hHeld2 => ?_)
     clear hK K hHeld hb8
     have hHeld := hS8
     clear hS8 hHeld2
     try simp only [Act.put, List.getElem_toArray, List.getElem_cons_succ, List.getElem_cons_zero, List.setIfInBounds_toArray, List.set_cons_zero, List.set_cons_succ]
     refine wpAnyH_ready (rs := [7]) (by kernel_rfl) (by simp) ?_
     refine AllReadyH.cons rfl (fun K hK => ?_) AllReadyH.nil
     go_simp
     go_at_call 47
     refine (m_Begin ty0 _).mono ?_
     rintro e w9 ⟨mk, Tm, rfl, hM, hb9⟩
     have HM := Lib.hid hM
     have HB9 := Lib.hid hb9
     have H8 := Lib.hid hHeld
     have hS8 := hHeld.trans (hb9.mono hHeld.size)
     try go_wp2_with fail
     refine hK.out _ _ hS8 (fun hHeld2 => ?_)
     clear hK K hHeld hb9 hM
     have hHeld := hS8
     clear hS8 hHeld2
     try simp only [Act.put, List.getElem_toArray, List.getElem_cons_succ, List.getElem_cons_zero, List.setIfInBounds_toArray, List.set_cons_zero, List.set_cons_succ]
     refine wpAnyH_take (i := 8) (v := ?_) rfl (by kernel_rfl) (by kernel_rfl) (by kernel_rfl) (fun _ _ _ h => h) (Or.inl ⟨by rfl, ?_⟩) hHeld ?_
     rotate_left
     ·intro wq hSw
      go_simp
      try with_reducible rfl
     try simp only [Act.put, List.getElem_toArray, List.getElem_cons_succ, List.getElem_cons_zero, List.setIfInBounds_toArray, List.set_cons_zero, List.set_cons_succ]
     refine wpAnyH_done (by kernel_rfl) ?_ _
     refine NoPanic.normal ?_
     obtain ⟨Bm, hBm⟩ : ∃ Bm, w8.heap.size = Bm := ⟨_, rfl⟩
     have HWB := Lib.hid (fun (V : World) (hb : Below w8.heap.size w8 V) => (HW.out.step H8.out).step hb)
     have HZB := Lib.hid (fun (V : World) (hb : Below w8.heap.size w8 V) => (HZ.out.step H8.out).step hb)
     have HSB := Lib.hid (fun (V : World) (hb : Below w8.heap.size w8 V) => hb.size)
     rw [hBm] at HWB HZB HSB HM HB9
     have HBm := Lib.hid hBm
     clear hBm HW HZ H8 hHeld HA0 HC0 hi1 hi2
     have sr := (HWB.out _ HB9.out).S.cell
     have sl := (HWB.out _ HB9.out).S.lt
     obtain ⟨hFb1, hFb2⟩ := stE_bd HF0.out.1
     obtain ⟨hTb1, hTb2⟩ := stE_bd HF0.out.2
     have hw1 : IntKind.i64.wrap (F + 1) = F + 1 := IntWalk.i64_in _ (by omega)
     have hw2 : IntKind.i64.wrap (T - 1) = T - 1 := IntWalk.i64_in _ (by omega)
     go_wp2_with fail
     clear sr sl
     go_loopw [16, 18] (fun kv fv wr => ∃ (m : Nat) (fr : Int) (Tm C : Value), KI + m < N ∧ kv = .int .i64 ((KI + m : Nat) : Int) ∧ fv = .int .i64 fr ∧ (-20000000000 ≤ fr ∧ fr ≤ 20000000000) ∧ Hid (fr = frK z.eras F KI (KI + m)) ∧ Hid (∀ j, j < m → z.eras[KI + j]!.until_ < T) ∧ Hid (MkC wr Bm mk Tm C (nF (nBegin ty0) (prgL rs z.eras F T KI m ++ opK rs z.eras KI (KI + m)))) ∧ Hid (Below Bm w8 wr)) (fun kv _ _ => N - (intOf kv).toNat)
     case atStart => exact ⟨0, F + 1, Tm, .slice none 0 0, hKN, rfl, rfl, by omega, Lib.hid (by simp [frK]), Lib.hid (fun j h => absurd h (by omega)), Lib.hid (by have h := HM.out; simpa [prgL, opK, nF] using h), HB9⟩
     case round =>
      clear HM HB9
      obtain ⟨m, fr, Tm, C, hmN, rfl, rfl, hfr, HFr, HUn, HM, HB⟩ := hrel
      obtain ⟨k, hk⟩ : ∃ k, KI + m = k := ⟨_, rfl⟩
      rw [hk] at hmN HFr HM ⊢
      have Hk := Lib.hid hk
      have hKk : KI ≤ k := by omega
      clear hk
      have hi1 : (0 : Int) ≤ (k : Int) := by omega
      have hi2 : (k : Int) < (N : Int) := by omega
      have HUF := Lib.hid (show k + 1 < N → F < z.eras[k]!.until_ ∧ z.eras[k]!.until_ ≤ 1099511627776 from fun h => by
       have h1 := (eraI_spec HE4.out.2.1 F).2.2 k (by rw [HN.out]; omega) (by rw [HKI.out]; exact hKk)
       rw [← get_bang (by rw [HN.out]; omega)] at h1
       exact ⟨h1, (HUb.out k (by rw [HN.out]; exact h)).2⟩)
      have HHi := Lib.hid (show hiK z.eras T k = if k + 1 < N then min (T - 1) (z.eras[k]!.until_ - 1) else T - 1 by unfold hiK; rw [HN.out])
      obtain ⟨hi, hhi⟩ : ∃ hi, hiK z.eras T k = hi := ⟨_, rfl⟩
      obtain ⟨x1, hx1⟩ : ∃ x1, z.eras[k]! = x1 := ⟨_, rfl⟩
      obtain ⟨L1, hL1⟩ : ∃ L1, (trnL rs x1).length = L1 := ⟨_, rfl⟩
      obtain ⟨f1, hf1⟩ : ∃ f1, fstL (trnL rs x1) = f1 := ⟨_, rfl⟩
      obtain ⟨a1, ha1⟩ : ∃ a1, zA Z k = a1 := ⟨_, rfl⟩
      obtain ⟨d1, hd1⟩ : ∃ d1, zc Z k = d1 := ⟨_, rfl⟩
      have HC1 := Lib.hid (fun (V : World) (hb : Below Bm w8 V) => (by have := HCl.out k hmN V (HZB.out V hb); rw [hx1, hL1, hf1, ha1, hd1] at this; exact this : b6 < V.heap.size ∧ V.cell? ⟨b6, o6 + k * 7, none⟩ = some (.int .i64 x1.off) ∧ V.cell? ⟨b6, o6 + k * 7 + 1, none⟩ = some (.string x1.rules) ∧ V.cell? ⟨b6, o6 + k * 7 + 2, none⟩ = some (.int .i64 x1.save) ∧ V.cell? ⟨b6, o6 + k * 7 + 3, none⟩ = some (.string x1.format) ∧ V.cell? ⟨b6, o6 + k * 7 + 4, none⟩ = some (.int .i64 x1.until_) ∧ V.cell? ⟨b6, o6 + k * 7 + 5, none⟩ = some (.slice a1 L1 d1) ∧ V.cell? ⟨b6, o6 + k * 7 + 6, none⟩ = some (.string f1) ∧ SlAt V V.heap.size 3 a1 ((trnL rs x1).map tuCells) ∧ L1 ≤ d1 ∧ d1 ≤ maxLen))
      have HA1 := Lib.hid (fun (t : Int) (V : World) (hb : Below Bm w8 V) => (by have := HAt.out k hmN t V (HZB.out V hb); rw [hx1, hL1, hf1, ha1, hd1] at this; exact this : Calls Tryz.prog 48 #[.agg (trdA x1 a1 L1 d1 f1), .int .i64 t] V fun e w' => e = .returned (tyV (tT rs z.eras k t)) ∧ Below V.heap.size V w'))
      have HL1 := Lib.hid (And.intro hL1 hx1)
      rw [hx1] at HUF HHi
      rw [hhi] at HHi
      have HHh := Lib.hid hhi
      clear hx1 hL1 hf1 ha1 hd1 hhi
      have sr := (HWB.out _ HB.out).S.cell
      have sl := (HWB.out _ HB.out).S.lt
      obtain ⟨bl6, c0, c1, c2', c3, c4, c5', c6, _, _, _⟩ := HC1.out _ HB.out
      go_upto_if 109 with fail
      go_cut [19] from 102 to 183 (fun v wx => v = .int .i64 hi ∧ wx = wr)
      case first =>
       by_cases hl : k + 1 < N
       ·obtain ⟨hu1, hu2⟩ := HUF.out hl
        have hl' : (k : Int) < (N : Int) - 1 := by omega
        have hw3 : IntKind.i64.wrap (x1.until_ - 1) = x1.until_ - 1 := IntWalk.i64_in _ (by omega)
        have HH2 := Lib.hid (show hi = min (T - 1) (x1.until_ - 1) by rw [HHi.out, if_pos hl])
        go_wp2_with fail
        go_meet
        exact ⟨by rw [HH2.out], rfl⟩
       ·have hl' : ¬ (k : Int) < (N : Int) - 1 := by omega
        have HH2 := Lib.hid (show hi = T - 1 by rw [HHi.out, if_neg hl])
        go_wp2_with fail
        go_meet
        exact ⟨by rw [HH2.out], rfl⟩
      case rest =>
       obtain ⟨hv, hwc⟩ := hcut
       subst hv
       have hwc2 := hwc.symm
       clear hwc
       subst hwc2
       clear sr sl
       obtain ⟨_, _, _, _, _, _, _, _, hS1, hd1, hd2⟩ := HC1.out _ HB.out
       have HWi := Lib.hid (show Calls Tryz.prog 49 #[.agg (trdA x1 a1 L1 d1 f1), .int .i64 fr, .int .i64 hi] wr fun e w' => ∃ v, e = .returned v ∧ w'.ownsRow wr.heap.size 3 1 v ((evs (trnL rs x1) fr hi).map inCells).length ((evs (trnL rs x1) fr hi).map inCells).flatten ∧ Below wr.heap.size wr w' from by have h9 := s_Within x1 a1 d1 (trnL rs x1) f1 fr hi wr hS1 (by rw [HL1.out.1]; exact hd1) hd2 (trnL_len rs x1); rw [HL1.out.1] at h9; exact h9)
       clear hS1 hd1 hd2
       go_wp2_with fail
       refine HWi.out.mono ?_
       rintro e w10 ⟨v, rfl, hv, hb10⟩
       have HV := Lib.hid hv
       have hzB : Bm ≤ wr.heap.size := HSB.out _ HB.out
       replace HM := Lib.hid (HM.out.step hb10)
       replace HB := Lib.hid (HB.out.trans (hb10.mono hzB))
       clear hb10 hv HWi c0 c1 c2' c3 c4 c5' c6 bl6
       obtain ⟨Bv, hBv⟩ : ∃ b, wr.heap.size = b := ⟨_, rfl⟩
       rw [hBv] at HV
       obtain ⟨L, hL⟩ : ∃ L, evs (trnL rs x1) fr hi = L := ⟨_, rfl⟩
       rw [hL] at HV
       have hLl : L.length ≤ 1500 := by rw [← hL]; have h1 := evs_len (trnL rs x1) fr hi; have h2 := trnL_len rs x1; omega
       have HLL := Lib.hid hL
       clear hL hBv
       obtain ⟨AV, cV, rfl, v1, v2, _⟩ := own_at (xss := L.map inCells) HV.out (by intro xs hx; obtain ⟨t, _, rfl⟩ := List.mem_map.1 hx; rfl)
       rw [List.length_map] at v1 ⊢
       unfold maxLen at v2
       have HNs := Lib.hid (show ∀ q, (nF (nBegin ty0) (prgL rs z.eras F T KI m ++ opK rs z.eras KI k ++ (L.take q).map fun t => (t, tT rs z.eras k t))).ts.length ≤ 2000000 ∧ (nF (nBegin ty0) (prgL rs z.eras F T KI m ++ opK rs z.eras KI k ++ (L.take q).map fun t => (t, tT rs z.eras k t))).cs.length ≤ 2000000 from fun q => by
        have h1 := nBuild_len ty0 (prgL rs z.eras F T KI m ++ opK rs z.eras KI k ++ (L.take q).map fun t => (t, tT rs z.eras k t))
        have h2 := prgL_len rs z.eras F T KI m
        have h3 : (opK rs z.eras KI k).length ≤ 1 := by unfold opK; split <;> simp
        rw [List.length_append, List.length_append, List.length_map, List.length_take] at h1
        have := Hk.out
        rw [nBuild_nF] at h1
        omega)
       go_wp2_with fail
       go_loopw [127] (fun i wr => ∃ (q : Nat) (Tm C : Value), q ≤ L.length ∧ i = .int .i64 q ∧ Hid (MkC wr Bm mk Tm C (nF (nBegin ty0) (prgL rs z.eras F T KI m ++ opK rs z.eras KI k ++ (L.take q).map fun t => (t, tT rs z.eras k t)))) ∧ Hid (wr.ownsRow Bv 3 1 (.slice AV L.length cV) (L.map inCells).length (L.map inCells).flatten) ∧ Hid (Below Bm w8 wr)) (fun i _ => L.length - (intOf i).toNat)
       case atStart => exact ⟨0, Tm, C, Nat.zero_le _, rfl, Lib.hid (by rw [List.take_zero, List.map_nil, List.append_nil]; exact HM.out), Lib.hid (by have h := HV.out; rw [List.length_map] at h; rw [List.length_map]; exact h), HB⟩
       case round =>
        clear HM HB HV
        obtain ⟨q, Tm, C, hq, rfl, HM, HV, HB⟩ := hrel
        have hzB2 : Bm ≤ wr.heap.size := HSB.out _ HB.out
        by_cases hq2 : q < L.length
        ·obtain ⟨A9, c9, e9, _, _, hA9⟩ := own_at (xss := L.map inCells) HV.out (by intro xs hx; obtain ⟨t, _, rfl⟩ := List.mem_map.1 hx; rfl)
         simp only [List.length_map, Value.slice.injEq, true_and] at e9
         obtain ⟨rfl, rfl⟩ := e9
         obtain ⟨bt, ot, rfl, hbt, l0⟩ := in_at hA9 hq2
         have HTk := Lib.hid (show (L.take (q + 1)).map (fun t => (t, tT rs z.eras k t)) = (L.take q).map (fun t => (t, tT rs z.eras k t)) ++ [(L[q], tT rs z.eras k L[q])] by rw [List.take_succ_eq_append_getElem hq2, List.map_append]; rfl)
         obtain ⟨t, ht⟩ : ∃ t, L[q] = t := ⟨_, rfl⟩
         rw [ht] at l0 HTk
         have hj1 : (0 : Int) ≤ (q : Int) := by omega
         have hj2 : (q : Int) < (L.length : Int) := by omega
         obtain ⟨bl6, c0, c1, c2', c3, c4, c5', c6, _, _, _⟩ := HC1.out _ HB.out
         have HAC := Lib.hid (HA1.out t wr HB.out)
         obtain ⟨ty1, hty1⟩ : ∃ ty1, tT rs z.eras k t = ty1 := ⟨_, rfl⟩
         rw [hty1] at HAC HTk
         have HNq := Lib.hid (HNs.out q)
         clear ht hA9 hty1
         go_wp2_with fail
         refine HAC.out.mono ?_
         rintro e w11 ⟨rfl, hb11⟩
         replace HM := Lib.hid (HM.out.step hb11)
         replace HV := Lib.hid (own_step HV.out hb11)
         replace HB := Lib.hid (HB.out.trans (hb11.mono hzB2))
         clear hb11 c0 c1 c2' c3 c4 c5' c6 l0 HAC bl6
         have HMC := Lib.hid (m_Change Bm mk Tm C _ t ty1 w11 HM.out (by have := HNq.out.1; omega) (by have := HNq.out.2; omega))
         go_wp2_with fail
         refine HMC.out.mono ?_
         rintro e w12 ⟨Tm2, C2, rfl, hM12, hb12, hk12⟩
         have hV12 := own_heapK HV.out (fun g hg => hk12 g (HV.out.lt g hg).2 (fun e => absurd hg (by rw [e]; exact Blk.own_ne HM.out.blk HV.out (by decide)))
          (fun e => (own_ne HV.out HM.out.hT (by decide)).elim (fun h => by rw [hg] at h; cases h) (fun h => h (by rw [hg, e])))
          (fun e => (own_ne HV.out HM.out.hC (by decide)).elim (fun h => by rw [hg] at h; cases h) (fun h => h (by rw [hg, e]))))
         have HM12 := Lib.hid hM12
         have HV12 := Lib.hid hV12
         have HB12 := Lib.hid (HB.out.trans hb12)
         clear hM12 hb12 hk12 hV12 HM HV HB HMC HNq
         go_wp2_with fail
         exact ⟨⟨q + 1, Tm2, C2, by omega, by go_num, Lib.hid (by rw [HTk.out, ← List.append_assoc, nF_snoc]; exact HM12.out), HV12, HB12⟩, by simp only [intOf]; omega⟩
        ·obtain rfl : q = L.length := by omega
         have HM2 := Lib.hid (show MkC wr Bm mk Tm C (nF (nBegin ty0) (prgL rs z.eras F T KI (m + 1))) by
          have h := HM.out
          rw [List.take_length] at h
          rw [prgL_succ, prgK, Hk.out, ← List.append_assoc, tnK, HL1.out.2, ← HFr.out, HHh.out, HLL.out]
          exact h)
         clear HM HV HNs
         obtain ⟨bl6, c0, c1, c2', c3, c4, c5', c6, _, _, _⟩ := HC1.out _ HB.out
         have sr := (HWB.out _ HB.out).S.cell
         have sl := (HWB.out _ HB.out).S.lt
         go_upto_region 30 with fail
         go_cut [156] from 102 to 183 (fun v wx => ∃ gg : Bool, v = .bool gg ∧ Hid (gg = true ↔ (k + 1 = N ∨ T ≤ x1.until_)) ∧ Hid (MkC wx Bm mk Tm C (nF (nBegin ty0) (prgL rs z.eras F T KI (m + 1)))) ∧ Hid (Below Bm w8 wx))
         case first =>
          by_cases hl : k + 1 = N
          ·have e0 : ((k : Int) == (N : Int) - 1) = true := by rw [beq_iff_eq]; omega
           have HGG := Lib.hid (show true = true ↔ (k + 1 = N ∨ T ≤ x1.until_) by simp [hl])
           go_quiet (fail)
           rename_i nq
           have HM3 := Lib.hid (HM2.out.drewN nq)
           have HB3 := Lib.hid (below_drewN HB.out nq)
           try go_wp2_with fail
           go_meet
           exact ⟨true, rfl, Lib.hid (by have h := HGG.out; simpa using h), HM3, HB3⟩
          ·have e0 : ((k : Int) == (N : Int) - 1) = false := by rw [beq_eq_false_iff_ne]; omega
           by_cases hT : T ≤ x1.until_
           ·have HGG := Lib.hid (show true = true ↔ (k + 1 = N ∨ T ≤ x1.until_) by simp [hT])
            go_quiet (fail)
            rename_i nq
            have HM3 := Lib.hid (HM2.out.drewN nq)
            have HB3 := Lib.hid (below_drewN HB.out nq)
            try go_wp2_with fail
            go_meet
            exact ⟨true, rfl, Lib.hid (by have h := HGG.out; simpa using h), HM3, HB3⟩
           ·have HGG := Lib.hid (show false = true ↔ (k + 1 = N ∨ T ≤ x1.until_) by simp [hl, hT])
            go_quiet (fail)
            rename_i nq
            have HM3 := Lib.hid (HM2.out.drewN nq)
            have HB3 := Lib.hid (below_drewN HB.out nq)
            try go_wp2_with fail
            go_meet
            exact ⟨false, rfl, Lib.hid (by have h := HGG.out; simpa using h), HM3, HB3⟩
         case rest =>
          clear HM2 HB sr sl c0 c1 c2' c3 c4 c5' c6 bl6
          obtain ⟨gg, hv, HGG, HM, HB⟩ := hcut
          subst hv
          cases gg with
          | true =>
           have HG2 := Lib.hid (HGG.out.1 rfl)
           have HSE := Lib.hid (HOK.out HF0.out.1 HF0.out.2 hFT trivial)
           have HS1 := Lib.hid (show s = nF (nBegin ty0) (prgL rs z.eras F T KI (m + 1)) by
            have h := HSE.out.1 m (by rw [HN.out]; have := Hk.out; omega) HUn.out (by rw [HN.out, Hk.out, HL1.out.2]; exact HG2.out)
            rw [h, nBuild_nF, HfT.out])
           have HNm := Lib.hid (show ∀ t ∈ s.ts, t.2.2.size ≤ maxLen by
            rw [HS1.out, ← nBuild_nF]
            exact nBuild_all (fun t => t.2.2.size ≤ maxLen) ty0 _ (by rw [← HfT.out]; exact tT_name _ _ _ _) (fun c hc => prg_names c hc))
           rw [← HS1.out] at HM
           clear HGG HG2 HS1 HUn HFr HC1 HA1 HL1 HHh HHi HUF HLL
           obtain ⟨A9, cA, C9, cC, rfl, rfl, hT9⟩ := mk_tab HM.out HNm.out
           have hAA : Above Bm A9 := fun a ha => (HM.out.hT.lt a.block (by rw [ha]; rfl)).1
           have hAC : Above Bm C9 := fun a ha => (HM.out.hC.lt a.block (by rw [ha]; rfl)).1
           have HT9 := Lib.hid hT9
           have HAb := Lib.hid (And.intro hAA hAC)
           have HW9 := Lib.hid (HWB.out _ HB.out)
           have HBT := Lib.hid (show B + 1 + 1 < Bm by have h := (HWB.out w8 (by rw [← HBm.out]; exact Below.refl _ _)).T.lt; rw [HBm.out] at h; exact h)
           have mc := HM.out.blk.cell
           have ml := HM.out.blk.lt
           have hsE := HSE.out.2
           clear hT9 hAA hAC
           by_cases h1 : 250 < s.ts.length
           ·have h1' : (250 : Int) < (s.ts.length : Int) := by omega
            rw [if_pos (Or.inl h1)] at hsE
            have HEE := Lib.hid hsE
            clear hsE
            go_wp2_with fail
            refine (t_none 2 _).mono ?_
            rintro e wn ⟨rfl, hbn⟩
            have HTn := Lib.hid (HW9.out.T.step hbn)
            have HBn := Lib.hid (HW9.out.L.trans (hbn.mono HW9.out.L.size))
            clear hbn
            have tr := HTn.out.frz
            have tl := HTn.out.lt
            have tc := HTn.out.cell
            go_wp2_with fail
            have HF := Lib.hid (blk3 HTn.out (x := .slice none 0 0) (y := .int .i64 0) (z := .slice none 0 0))
            have HBF := Lib.hid (show Below w.heap.size w (((wn.setCell ⟨B + 1 + 1, 0, none⟩ (.slice none 0 0)).setCell ⟨B + 1 + 1, 1, none⟩ (.int .i64 0)).setCell ⟨B + 1 + 1, 2, none⟩ (.slice none 0 0)) from below3 HBn.out (by have := HBe.out; omega))
            obtain ⟨U, hU⟩ : ∃ U, (((wn.setCell ⟨B + 1 + 1, 0, none⟩ (.slice none 0 0)).setCell ⟨B + 1 + 1, 1, none⟩ (.int .i64 0)).setCell ⟨B + 1 + 1, 2, none⟩ (.slice none 0 0)) = U := ⟨_, rfl⟩
            rw [hU] at HF HBF ⊢
            have hf := HF.out.cell
            exact bodyPost_ret (v := .tuple #[.agg #[.slice none 0 0, .int .i64 0, .slice none 0 0], .int .i64 2]) (by simp [results, Tryz.results15, go_sem, hf]) rfl (by have he := HEE.out; subst he; exact tm_bad (by decide) HBF.out)
           ·have h1' : ¬ (250 : Int) < (s.ts.length : Int) := by omega
            by_cases h2 : 1000 < s.cs.length
            ·have h2' : (1000 : Int) < (s.cs.length : Int) := by omega
             rw [if_pos (Or.inr h2)] at hsE
             have HEE := Lib.hid hsE
             clear hsE
             go_wp2_with fail
             refine (t_none 2 _).mono ?_
             rintro e wn ⟨rfl, hbn⟩
             have HTn := Lib.hid (HW9.out.T.step hbn)
             have HBn := Lib.hid (HW9.out.L.trans (hbn.mono HW9.out.L.size))
             clear hbn
             have tr := HTn.out.frz
             have tl := HTn.out.lt
             have tc := HTn.out.cell
             go_wp2_with fail
             have HF := Lib.hid (blk3 HTn.out (x := .slice none 0 0) (y := .int .i64 0) (z := .slice none 0 0))
             have HBF := Lib.hid (show Below w.heap.size w (((wn.setCell ⟨B + 1 + 1, 0, none⟩ (.slice none 0 0)).setCell ⟨B + 1 + 1, 1, none⟩ (.int .i64 0)).setCell ⟨B + 1 + 1, 2, none⟩ (.slice none 0 0)) from below3 HBn.out (by have := HBe.out; omega))
             obtain ⟨U, hU⟩ : ∃ U, (((wn.setCell ⟨B + 1 + 1, 0, none⟩ (.slice none 0 0)).setCell ⟨B + 1 + 1, 1, none⟩ (.int .i64 0)).setCell ⟨B + 1 + 1, 2, none⟩ (.slice none 0 0)) = U := ⟨_, rfl⟩
             rw [hU] at HF HBF ⊢
             have hf := HF.out.cell
             exact bodyPost_ret (v := .tuple #[.agg #[.slice none 0 0, .int .i64 0, .slice none 0 0], .int .i64 2]) (by simp [results, Tryz.results15, go_sem, hf]) rfl (by have he := HEE.out; subst he; exact tm_bad (by decide) HBF.out)
            ·have h2' : ¬ (1000 : Int) < (s.cs.length : Int) := by omega
             rw [if_neg (by omega)] at hsE
             have HEE := Lib.hid hsE
             clear hsE
             have tr := HW9.out.T.frz
             have tl := HW9.out.T.lt
             have tc := HW9.out.T.cell
             go_wp2_with fail
             have hT1 := TabAt.far (TabAt.far (TabAt.far HT9.out HAb.out.1 HAb.out.2 HBT.out (i := 0) (.slice A9 s.ts.length cA)) HAb.out.1 HAb.out.2 HBT.out (i := 1) (.int .i64 0)) HAb.out.1 HAb.out.2 HBT.out (i := 2) (.slice C9 s.cs.length cC)
             have HT10 := Lib.hid hT1
             clear hT1
             have HF := Lib.hid (blk3 HW9.out.T (x := .slice A9 s.ts.length cA) (y := .int .i64 0) (z := .slice C9 s.cs.length cC))
             have HBF := Lib.hid (show Below w.heap.size w (((wc.setCell ⟨B + 1 + 1, 0, none⟩ (.slice A9 s.ts.length cA)).setCell ⟨B + 1 + 1, 1, none⟩ (.int .i64 0)).setCell ⟨B + 1 + 1, 2, none⟩ (.slice C9 s.cs.length cC)) from below3 HW9.out.L (by have := HBe.out; omega))
             obtain ⟨U, hU⟩ : ∃ U, (((wc.setCell ⟨B + 1 + 1, 0, none⟩ (.slice A9 s.ts.length cA)).setCell ⟨B + 1 + 1, 1, none⟩ (.int .i64 0)).setCell ⟨B + 1 + 1, 2, none⟩ (.slice C9 s.cs.length cC)) = U := ⟨_, rfl⟩
             rw [hU] at HF HBF HT10 ⊢
             have hf := HF.out.cell
             exact bodyPost_ret (v := .tuple #[.agg #[.slice A9 s.ts.length cA, .int .i64 0, .slice C9 s.cs.length cC], .int .i64 0]) (by simp [results, Tryz.results15, go_sem, hf]) rfl (by have he := HEE.out; subst he; exact ⟨A9, C9, cA, cC, rfl, HT10.out, HBF.out⟩)
          | false =>
           have hng : ¬ (k + 1 = N ∨ T ≤ x1.until_) := fun h => by have := HGG.out.2 h; cases this
           have hk1 : k + 1 < N := by omega
           have hUT : x1.until_ < T := by omega
           obtain ⟨hu1, hu2⟩ := HUF.out hk1
           have HUn2 := Lib.hid (show ∀ j, j < m + 1 → z.eras[KI + j]!.until_ < T from fun j hj => by
            by_cases e : j = m
            ·rw [e, Hk.out, HL1.out.2]; exact hUT
            ·exact HUn.out j (by omega))
           have HFr2 := Lib.hid (show x1.until_ + 1 = frK z.eras F KI (KI + (m + 1)) by
            have := Hk.out
            unfold frK; rw [if_neg (by omega), show KI + (m + 1) - 1 = k by omega, HL1.out.2])
           have HOp := Lib.hid (show opK rs z.eras KI (KI + (m + 1)) = [(x1.until_, tT rs z.eras (k + 1) x1.until_)] by
            have := Hk.out
            unfold opK; rw [if_neg (by omega), show KI + (m + 1) - 1 = k by omega, show KI + (m + 1) = k + 1 by omega, HL1.out.2])
           have HLn := Lib.hid (show (nF (nBegin ty0) (prgL rs z.eras F T KI (m + 1))).ts.length ≤ 10000000 ∧ (nF (nBegin ty0) (prgL rs z.eras F T KI (m + 1))).cs.length ≤ 10000000 by
            have h1 := nBuild_len ty0 (prgL rs z.eras F T KI (m + 1))
            have h2 := prgL_len rs z.eras F T KI (m + 1)
            have := Hk.out
            rw [nBuild_nF] at h1
            omega)
           obtain ⟨x2, hx2⟩ : ∃ x2, z.eras[k + 1]! = x2 := ⟨_, rfl⟩
           obtain ⟨L2, hL2⟩ : ∃ L2, (trnL rs x2).length = L2 := ⟨_, rfl⟩
           obtain ⟨f2, hf2⟩ : ∃ f2, fstL (trnL rs x2) = f2 := ⟨_, rfl⟩
           obtain ⟨a2, ha2⟩ : ∃ a2, zA Z (k + 1) = a2 := ⟨_, rfl⟩
           obtain ⟨d2, hd2⟩ : ∃ d2, zc Z (k + 1) = d2 := ⟨_, rfl⟩
           obtain ⟨ty2, hty2⟩ : ∃ ty2, tT rs z.eras (k + 1) x1.until_ = ty2 := ⟨_, rfl⟩
           have HC2 := Lib.hid (fun (V : World) (hb : Below Bm w8 V) => (by have := HCl.out (k + 1) hk1 V (HZB.out V hb); rw [hx2, hL2, hf2, ha2, hd2] at this; exact this : b6 < V.heap.size ∧ V.cell? ⟨b6, o6 + (k + 1) * 7, none⟩ = some (.int .i64 x2.off) ∧ V.cell? ⟨b6, o6 + (k + 1) * 7 + 1, none⟩ = some (.string x2.rules) ∧ V.cell? ⟨b6, o6 + (k + 1) * 7 + 2, none⟩ = some (.int .i64 x2.save) ∧ V.cell? ⟨b6, o6 + (k + 1) * 7 + 3, none⟩ = some (.string x2.format) ∧ V.cell? ⟨b6, o6 + (k + 1) * 7 + 4, none⟩ = some (.int .i64 x2.until_) ∧ V.cell? ⟨b6, o6 + (k + 1) * 7 + 5, none⟩ = some (.slice a2 L2 d2) ∧ V.cell? ⟨b6, o6 + (k + 1) * 7 + 6, none⟩ = some (.string f2) ∧ SlAt V V.heap.size 3 a2 ((trnL rs x2).map tuCells) ∧ L2 ≤ d2 ∧ d2 ≤ maxLen))
           have HA2 := Lib.hid (fun (V : World) (hb : Below Bm w8 V) => (by have := HAt.out (k + 1) hk1 x1.until_ V (HZB.out V hb); rw [hx2, hL2, hf2, ha2, hd2, hty2] at this; exact this : Calls Tryz.prog 48 #[.agg (trdA x2 a2 L2 d2 f2), .int .i64 x1.until_] V fun e w' => e = .returned (tyV ty2) ∧ Below V.heap.size V w'))
           rw [hty2] at HOp
           clear hx2 hL2 hf2 ha2 hd2 hty2 HGG hng HUn HFr HHh HHi HLL
           have hj1 : (0 : Int) ≤ (k : Int) + 1 := by omega
           have hj2 : (k : Int) + 1 < (N : Int) := by omega
           have hw4 : IntKind.i64.wrap (x1.until_ + 1) = x1.until_ + 1 := IntWalk.i64_in _ (by omega)
           have hw5 : IntKind.i64.wrap ((k : Int) + 1) = (k : Int) + 1 := IntWalk.i64_in _ (by omega)
           have hkt : ((k : Int) + 1).toNat = k + 1 := by omega
           obtain ⟨bl6, c0, c1, c2', c3, c4, c5', c6, _, _, _⟩ := HC1.out _ HB.out
           go_upto_region 32 with fail
           clear c0 c1 c2' c3 c4 c5' c6 bl6
           refine wp_region_noPanic ?_
           refine wp_region_held_drew (S := fun W' : World => Below Bm w8 W') (by kernel_rfl) HB.out.drew (fun hHeld0 => ?_)
           have hHeld := hHeld0
           clear hHeld0
           refine wpAnyH_take (i := 0) (v := ?_) rfl (by kernel_rfl) (by kernel_rfl) (by kernel_rfl) (fun _ _ _ h => h) (Or.inl ⟨by rfl, ?_⟩) hHeld ?_
           rotate_left
           ·intro wq hSw
            go_simp
            try with_reducible rfl
           try simp only [Act.put, List.getElem_toArray, List.getElem_cons_succ, List.getElem_cons_zero, List.setIfInBounds_toArray, List.set_cons_zero, List.set_cons_succ]
           refine wpAnyH_take (i := 1) (v := ?_) rfl (by kernel_rfl) (by kernel_rfl) (by kernel_rfl) (fun _ _ _ h => h) (Or.inl ⟨by rfl, ?_⟩) hHeld ?_
           rotate_left
           ·intro wq hSw
            go_simp
            try with_reducible rfl
           try simp only [Act.put, List.getElem_toArray, List.getElem_cons_succ, List.getElem_cons_zero, List.setIfInBounds_toArray, List.set_cons_zero, List.set_cons_succ]
           refine wpAnyH_take (i := 2) (v := ?_) rfl (by kernel_rfl) (by kernel_rfl) (by kernel_rfl) (fun _ _ _ h => h) (Or.inl ⟨by rfl, ?_⟩) hHeld ?_
           rotate_left
           ·intro wq hSw
            go_simp
            try with_reducible rfl
           try simp only [Act.put, List.getElem_toArray, List.getElem_cons_succ, List.getElem_cons_zero, List.setIfInBounds_toArray, List.set_cons_zero, List.set_cons_succ]
           refine wpAnyH_take (i := 3) (v := ?_) rfl (by kernel_rfl) (by kernel_rfl) (by kernel_rfl) (fun _ _ _ h => h) (Or.inl ⟨by rfl, ?_⟩) hHeld ?_
           rotate_left
           ·intro wq hSw
            go_simp
            try with_reducible rfl
           try simp only [Act.put, List.getElem_toArray, List.getElem_cons_succ, List.getElem_cons_zero, List.setIfInBounds_toArray, List.set_cons_zero, List.set_cons_succ]
           refine wpAnyH_take (i := 4) (v := ?_) rfl (by kernel_rfl) (by kernel_rfl) (by kernel_rfl) (fun _ _ _ h => h) (Or.inl ⟨by rfl, ?_⟩) hHeld ?_
           rotate_left
           ·intro wq hSw
            go_simp
            try with_reducible rfl
           try simp only [Act.put, List.getElem_toArray, List.getElem_cons_succ, List.getElem_cons_zero, List.setIfInBounds_toArray, List.set_cons_zero, List.set_cons_succ]
           refine wpAnyH_take (i := 5) (v := ?_) rfl (by kernel_rfl) (by kernel_rfl) (by kernel_rfl) (fun _ _ _ h => h) (Or.inl ⟨by rfl, ?_⟩) hHeld ?_
           rotate_left
           ·intro wq hSw
            go_simp
            try with_reducible rfl
           try simp only [Act.put, List.getElem_toArray, List.getElem_cons_succ, List.getElem_cons_zero, List.setIfInBounds_toArray, List.set_cons_zero, List.set_cons_succ]
           refine wpAnyH_take (i := 6) (v := ?_) rfl (by kernel_rfl) (by kernel_rfl) (by kernel_rfl) (fun _ _ _ h => h) (Or.inl ⟨by rfl, ?_⟩) hHeld ?_
           rotate_left
           ·intro wq hSw
            obtain ⟨_, c0, c1, c2', c3, c4, c5', c6, _, _, _⟩ := HC1.out _ hSw
            go_simp
            try with_reducible rfl
           try simp only [Act.put, List.getElem_toArray, List.getElem_cons_succ, List.getElem_cons_zero, List.setIfInBounds_toArray, List.set_cons_zero, List.set_cons_succ]
           refine wpAnyH_take (i := 7) (v := ?_) rfl (by kernel_rfl) (by kernel_rfl) (by kernel_rfl) (fun _ _ _ h => h) (Or.inl ⟨by rfl, ?_⟩) hHeld ?_
           rotate_left
           ·intro wq hSw
            go_simp
            try with_reducible rfl
           try simp only [Act.put, List.getElem_toArray, List.getElem_cons_succ, List.getElem_cons_zero, List.setIfInBounds_toArray, List.set_cons_zero, List.set_cons_succ]
           refine wpAnyH_take (i := 8) (v := ?_) rfl (by kernel_rfl) (by kernel_rfl) (by kernel_rfl) (fun _ _ _ h => h) (Or.inl ⟨by rfl, ?_⟩) hHeld ?_
           rotate_left
           ·intro wq hSw
            go_simp
            try with_reducible rfl
           try simp only [Act.put, List.getElem_toArray, List.getElem_cons_succ, List.getElem_cons_zero, List.setIfInBounds_toArray, List.set_cons_zero, List.set_cons_succ]
           refine wpAnyH_take (i := 9) (v := ?_) rfl (by kernel_rfl) (by kernel_rfl) (by kernel_rfl) (fun _ _ _ h => h) (Or.inl ⟨by rfl, ?_⟩) hHeld ?_
           rotate_left
           ·intro wq hSw
            go_simp
            try with_reducible rfl
           try simp only [Act.put, List.getElem_toArray, List.getElem_cons_succ, List.getElem_cons_zero, List.setIfInBounds_toArray, List.set_cons_zero, List.set_cons_succ]
           refine wpAnyH_take (i := 10) (v := ?_) rfl (by kernel_rfl) (by kernel_rfl) (by kernel_rfl) (fun _ _ _ h => h) (Or.inl ⟨by rfl, ?_⟩) hHeld ?_
           rotate_left
           ·intro wq hSw
            go_simp
            try with_reducible rfl
           try simp only [Act.put, List.getElem_toArray, List.getElem_cons_succ, List.getElem_cons_zero, List.setIfInBounds_toArray, List.set_cons_zero, List.set_cons_succ]
           refine wpAnyH_take (i := 11) (v := ?_) rfl (by kernel_rfl) (by kernel_rfl) (by kernel_rfl) (fun _ _ _ h => h) (Or.inl ⟨by rfl, ?_⟩) hHeld ?_
           rotate_left
           ·intro wq hSw
            obtain ⟨_, c0, c1, c2', c3, c4, c5', c6, _, _, _⟩ := HC2.out _ hSw
            go_simp
            try with_reducible rfl
           try simp only [Act.put, List.getElem_toArray, List.getElem_cons_succ, List.getElem_cons_zero, List.setIfInBounds_toArray, List.set_cons_zero, List.set_cons_succ]
           refine wpAnyH_take (i := 12) (v := ?_) rfl (by kernel_rfl) (by kernel_rfl) (by kernel_rfl) (fun _ _ _ h => h) (Or.inl ⟨by rfl, ?_⟩) hHeld ?_
           rotate_left
           ·intro wq hSw
            go_simp
            try with_reducible rfl
           try simp only [Act.put, List.getElem_toArray, List.getElem_cons_succ, List.getElem_cons_zero, List.setIfInBounds_toArray, List.set_cons_zero, List.set_cons_succ]
           refine wpAnyH_take (i := 13) (v := ?_) rfl (by kernel_rfl) (by kernel_rfl) (by kernel_rfl) (fun _ _ _ h => h) (Or.inl ⟨by rfl, ?_⟩) hHeld ?_
           rotate_left
           ·intro wq hSw
            go_simp
            try with_reducible rfl
           try simp only [Act.put, List.getElem_toArray, List.getElem_cons_succ, List.getElem_cons_zero, List.setIfInBounds_toArray, List.set_cons_zero, List.set_cons_succ]
           refine wpAnyH_take (i := 14) (v := ?_) rfl (by kernel_rfl) (by kernel_rfl) (by kernel_rfl) (fun _ _ _ h => h) (Or.inl ⟨by rfl, ?_⟩) hHeld ?_
           rotate_left
           ·intro wq hSw
            go_simp
            try with_reducible rfl
           try simp only [Act.put, List.getElem_toArray, List.getElem_cons_succ, List.getElem_cons_zero, List.setIfInBounds_toArray, List.set_cons_zero, List.set_cons_succ]
           refine wpAnyH_take (i := 15) (v := ?_) rfl (by kernel_rfl) (by kernel_rfl) (by kernel_rfl) (fun _ _ _ h => h) (Or.inl ⟨by rfl, ?_⟩) hHeld ?_
           rotate_left
           ·intro wq hSw
            go_simp
            try with_reducible rfl
           try simp only [Act.put, List.getElem_toArray, List.getElem_cons_succ, List.getElem_cons_zero, List.setIfInBounds_toArray, List.set_cons_zero, List.set_cons_succ]
           refine wpAnyH_take (i := 16) (v := ?_) rfl (by kernel_rfl) (by kernel_rfl) (by kernel_rfl) (fun _ _ _ h => h) (Or.inl ⟨by rfl, ?_⟩) hHeld ?_
           rotate_left
           ·intro wq hSw
            go_simp
            try with_reducible rfl
           try simp only [Act.put, List.getElem_toArray, List.getElem_cons_succ, List.getElem_cons_zero, List.setIfInBounds_toArray, List.set_cons_zero, List.set_cons_succ]
           refine wpAnyH_take (i := 17) (v := ?_) rfl (by kernel_rfl) (by kernel_rfl) (by kernel_rfl) (fun _ _ _ h => h) (Or.inl ⟨by rfl, ?_⟩) hHeld ?_
           rotate_left
           ·intro wq hSw
            obtain ⟨_, c0, c1, c2', c3, c4, c5', c6, _, _, _⟩ := HC1.out _ hSw
            go_simp
            try with_reducible rfl
           try simp only [Act.put, List.getElem_toArray, List.getElem_cons_succ, List.getElem_cons_zero, List.setIfInBounds_toArray, List.set_cons_zero, List.set_cons_succ]
           refine wpAnyH_ready (rs := [18]) (by kernel_rfl) (by simp) ?_
           refine AllReadyH.cons rfl (fun K hK => ?_) AllReadyH.nil
           go_simp
           go_at_call 48
           refine (HA2.out _ hHeld).mono ?_
           rintro e w13 ⟨rfl, hb13⟩
           have HM3 := Lib.hid (HM.out.drew.step hb13)
           have hS8 := hHeld.trans (hb13.mono (HSB.out _ hHeld))
           try go_wp2_with fail
           refine hK.out _ _ hS8 (fun hHeld2 => ?_)
           clear hK K hHeld hb13
           have hHeld := hS8
           clear hS8 hHeld2
           try simp only [Act.put, List.getElem_toArray, List.getElem_cons_succ, List.getElem_cons_zero, List.setIfInBounds_toArray, List.set_cons_zero, List.set_cons_succ]
           refine wpAnyH_ready (rs := [19]) (by kernel_rfl) (by simp) ?_
           refine AllReadyH.cons rfl (fun K hK => ?_) AllReadyH.nil
           go_simp
           go_at_call 50
           refine (m_Change Bm mk Tm C _ x1.until_ ty2 _ HM3.out HLn.out.1 HLn.out.2).mono ?_
           rintro e w14 ⟨Tm2, C2, rfl, hM14, hb14, _⟩
           have HM14 := Lib.hid hM14
           have hS8 := hHeld.trans hb14
           try go_wp2_with fail
           refine hK.out _ _ hS8 (fun hHeld2 => ?_)
           clear hK K hHeld hb14 hM14
           have hHeld := hS8
           clear hS8 hHeld2
           try simp only [Act.put, List.getElem_toArray, List.getElem_cons_succ, List.getElem_cons_zero, List.setIfInBounds_toArray, List.set_cons_zero, List.set_cons_succ]
           refine wpAnyH_done (by kernel_rfl) ?_ _
           refine NoPanic.normal ?_
           try go_wp2_with fail
           exact ⟨⟨m + 1, x1.until_ + 1, Tm2, C2, by have := Hk.out; omega, by rw [show ((KI + (m + 1) : Nat) : Int) = (k : Int) + 1 by have := Hk.out; omega], rfl, by omega, HFr2, HUn2, Lib.hid (by rw [HOp.out, nF_snoc]; exact HM14.out), Lib.hid hHeld⟩, by simp only [intOf]; have := Hk.out; omega⟩
    ·have HEE := Lib.hid (HE2.out HF0.out.1 HF0.out.2 hFT hE0)
     have h2' : (EE != 0) = true := by rw [bne_iff_ne]; exact hE0
     have HE0' := Lib.hid hE0
     clear hE0
     go_wp2_with fail
     refine (t_none EE w5).mono ?_
     rintro e wn ⟨rfl, hbn⟩
     have HTn := Lib.hid (HW.out.T.step hbn)
     have HBn := Lib.hid (HW.out.L.trans (hbn.mono HW.out.L.size))
     clear hbn
     have tr := HTn.out.frz
     have tl := HTn.out.lt
     have tc := HTn.out.cell
     go_wp2_with fail
     have HF := Lib.hid (blk3 HTn.out (x := .slice none 0 0) (y := .int .i64 0) (z := .slice none 0 0))
     have HBF := Lib.hid (show Below w.heap.size w (((wn.setCell ⟨B + 1 + 1, 0, none⟩ (.slice none 0 0)).setCell ⟨B + 1 + 1, 1, none⟩ (.int .i64 0)).setCell ⟨B + 1 + 1, 2, none⟩ (.slice none 0 0)) from below3 HBn.out (by have := HBe.out; omega))
     obtain ⟨U, hU⟩ : ∃ U, (((wn.setCell ⟨B + 1 + 1, 0, none⟩ (.slice none 0 0)).setCell ⟨B + 1 + 1, 1, none⟩ (.int .i64 0)).setCell ⟨B + 1 + 1, 2, none⟩ (.slice none 0 0)) = U := ⟨_, rfl⟩
     rw [hU] at HF HBF ⊢
     have hf := HF.out.cell
     exact bodyPost_ret (v := .tuple #[.agg #[.slice none 0 0, .int .i64 0, .slice none 0 0], .int .i64 EE]) (by simp [results, Tryz.results15, go_sem, hf]) rfl (by have he := HEE.out; have h0 := HE0'.out; subst he; exact tm_bad h0 HBF.out)
end Go.Proofs.YthppifcggmdmoaaGreatDoor

