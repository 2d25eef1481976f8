/- Walk of the reference's TableMake. -/
import Derived.Test.YtanaoohgpdcfjaaGreatDoorXTmQ
import Derived.Deep.CutRange
namespace Go.Proofs.YtanaoohgpdcfjaaGreatDoor
open Go.RowKit
set_option linter.unusedVariables false
set_option linter.unusedSimpArgs false
attribute [local go_sem ↓] Go.wp_at_zero Go.wp_at_succ
set_option maxRecDepth 100000 in
set_option maxHeartbeats 4000000 in
theorem r_TableMake_e (AR AZ AL : Option Addr) (cR cZ cL : Nat) (rs : List RuT) (zs : List ZoT) (ls : List LkT) (nm : ByteArray) (hnm : nm.size ≤ maxLen) (F T : Int) (w : World) (H : BkOk w w.heap.size ⟨AR, AZ, AL, cR, cZ, cL, rs, zs, ls⟩) (n : Int) (h0 : n ≠ 0) (hcase : bookE rs zs ls = n ∨ bookE rs zs ls = 0 ∧ rsV (res zs ls (ls.length + 1) nm) = .tuple #[zo0, .int .i64 n]) :
    Calls Tryz.prog 16 #[.agg #[.slice AR rs.length cR, .slice AZ zs.length cZ, .slice AL ls.length cL], .string nm, .agg #[.int .i64 F, .int .i64 T]] w fun e w' => e = .returned (.tuple #[.agg #[.slice none 0 0, .int .i64 0, .slice none 0 0], .int .i64 n]) ∧ Below w.heap.size w w' := by
  have hb1 := (Below.refl w.heap.size w).alloc (Nat.le_refl _) (.cells #[.slice AR rs.length cR, .slice AZ zs.length cZ, .slice AL ls.length cL] 26)
  have hb2 := hb1.alloc (by rw [size_alloc]; omega) (.cells #[.int .i64 F, .int .i64 T] 41)
  have hb3 := hb2.alloc (by rw [size_alloc, size_alloc]; omega) (.cells #[.slice none 0 0, .int .i64 0, .slice none 0 0] 45)
  have k1 := ((Blk.new w #[.slice AR rs.length cR, .slice AZ zs.length cZ, .slice AL ls.length cL] 26).alloc (.cells #[.int .i64 F, .int .i64 T] 41)).alloc (.cells #[.slice none 0 0, .int .i64 0, .slice none 0 0] 45)
  have k2 := (Blk.new (w.alloc (.cells #[.slice AR rs.length cR, .slice AZ zs.length cZ, .slice AL ls.length cL] 26)) #[.int .i64 F, .int .i64 T] 41).alloc (.cells #[.slice none 0 0, .int .i64 0, .slice none 0 0] 45)
  have k3 := Blk.new ((w.alloc (.cells #[.slice AR rs.length cR, .slice AZ zs.length cZ, .slice AL ls.length cL] 26)).alloc (.cells #[.int .i64 F, .int .i64 T] 41)) #[.slice none 0 0, .int .i64 0, .slice none 0 0] 45
  rw [size_alloc] at k2
  rw [size_alloc, size_alloc] at k3
  have HC := Lib.hid (fun (V : World) (hb : Below w.heap.size w V) => (show Calls Tryz.prog 43 #[.agg #[.slice AR rs.length cR, .slice AZ zs.length cZ, .slice AL ls.length cL], .string nm] V fun e w' => e = .returned (.tuple #[.agg #[.string ⟨#[]⟩, .slice none 0 0], .int .i64 n]) ∧ Below V.heap.size V w' from by
    rcases hcase with h1 | ⟨h1, h2⟩
    · exact r_Resolve_no AR AZ AL cR cZ cL rs zs ls nm hnm V (H.step hb) n h1 h0
    · have := r_Resolve' AR AZ AL cR cZ cL rs zs ls nm hnm V (H.step hb) h1; rw [h2] at this; exact this))
  obtain ⟨W, hW⟩ : ∃ W, ((w.alloc (.cells #[.slice AR rs.length cR, .slice AZ zs.length cZ, .slice AL ls.length cL] 26)).alloc (.cells #[.int .i64 F, .int .i64 T] 41)).alloc (.cells #[.slice none 0 0, .int .i64 0, .slice none 0 0] 45) = W := ⟨_, rfl⟩
  rw [hW] at hb3 k1 k2 k3
  have HB := Lib.hid hb3
  have HK := Lib.hid k1
  have HS := Lib.hid k2
  have HT := Lib.hid k3
  obtain ⟨B, hBe⟩ : ∃ B, w.heap.size = B := ⟨_, rfl⟩
  have HBe := Lib.hid hBe
  have h2 : (n != 0) = true := by rw [bne_iff_ne]; exact h0
  clear hb1 hb2 hb3 k1 k2 k3 H hcase h0
  go_enter Tryz.func16, Tryz.ntmps16
  go_upto_region 1 with fail
  have hb0 := HB.out
  rw [hBe] at HT HK HS
  have kr := HK.out.cell
  have kl := HK.out.lt
  clear hBe
  go_wp2_with fail
  refine (HC.out _ hb0).mono ?_
  rintro e w2 ⟨rfl, hb2⟩
  have hb3 := hb2.alloc hb2.size (.cells #[.string ⟨#[]⟩, .slice none 0 0] 74)
  replace HT := Lib.hid (HT.out.step hb3)
  replace HB := Lib.hid (HB.out.trans (hb3.mono HB.out.size))
  clear hb2 hb3 kr kl hb0 HC HK
  go_upto_region 2 with fail
  obtain ⟨V, hV⟩ : ∃ V, w2.alloc (.cells #[.string ⟨#[]⟩, .slice none 0 0] 74) = V := ⟨_, rfl⟩
  rw [hV] at HT HB ⊢
  clear hV
  have tr := HT.out.frz
  have tl := HT.out.lt
  have tc := HT.out.cell
  go_wp2_with fail
  have HF := Lib.hid (blk3 HT.out (x := .slice none 0 0) (y := .int .i64 0) (z := .slice none 0 0))
  have HBF := Lib.hid (show Below w.heap.size w (((V.setCell ⟨B + 1 + 1, 0, none⟩ (.slice none 0 0)).setCell ⟨B + 1 + 1, 1, none⟩ (.int .i64 0)).setCell ⟨B + 1 + 1, 2, none⟩ (.slice none 0 0)) from below3 HB.out (by have := HBe.out; omega))
  obtain ⟨U, hU⟩ : ∃ U, (((V.setCell ⟨B + 1 + 1, 0, none⟩ (.slice none 0 0)).setCell ⟨B + 1 + 1, 1, none⟩ (.int .i64 0)).setCell ⟨B + 1 + 1, 2, none⟩ (.slice none 0 0)) = U := ⟨_, rfl⟩
  rw [hU] at HF HBF ⊢
  have hf := HF.out.cell
  exact bodyPost_ret (v := .tuple #[.agg #[.slice none 0 0, .int .i64 0, .slice none 0 0], .int .i64 n]) (by simp [results, Tryz.results16, go_sem, hf]) rfl ⟨rfl, HBF.out⟩
set_option maxRecDepth 100000 in
set_option maxHeartbeats 16000000 in
theorem r_TableMake_z (AR AZ AL : Option Addr) (cR cZ cL : Nat) (rs : List RuT) (zs : List ZoT) (ls : List LkT) (nm : ByteArray) (hnm : nm.size ≤ maxLen) (F T : Int) (w : World) (H : BkOk w w.heap.size ⟨AR, AZ, AL, cR, cZ, cL, rs, zs, ls⟩) (z : ZoT) (h : bookE rs zs ls = 0) (hres : res zs ls (ls.length + 1) nm = .zone z) (E : Int) (s : NSt)
    (hE1 : stE F ≠ 0 ∨ stE T ≠ 0 ∨ T ≤ F → E = 1) (hE2 : stE F = 0 → stE T = 0 → F < T → ersE rs z.eras ≠ 0 → E = ersE rs z.eras)
    (hOK : stE F = 0 → stE T = 0 → F < T → ersE rs z.eras = 0 → s = nBuild (fT rs z.eras F) ((refL rs z.eras F T z.eras.length).map fun t => (t, fT rs z.eras t)) ∧ E = if 250 < s.ts.length ∨ 1000 < s.cs.length then 2 else 0) :
    Calls Tryz.prog 16 #[.agg #[.slice AR rs.length cR, .slice AZ zs.length cZ, .slice AL ls.length cL], .string nm, .agg #[.int .i64 F, .int .i64 T]] w (TmPost E s w) := by
  obtain ⟨i0, hi0, hz0, hz1, hz2⟩ := info_parts info_int
  obtain ⟨iT, hiT, hy0, hy1, hy2⟩ := info_parts info_TuSl
  have hb1 := (Below.refl w.heap.size w).alloc (Nat.le_refl _) (.cells #[.slice AR rs.length cR, .slice AZ zs.length cZ, .slice AL ls.length cL] 26)
  have hb2 := hb1.alloc (by rw [size_alloc]; omega) (.cells #[.int .i64 F, .int .i64 T] 41)
  have hb3 := hb2.alloc (by rw [size_alloc, size_alloc]; omega) (.cells #[.slice none 0 0, .int .i64 0, .slice none 0 0] 45)
  have k1 := ((Blk.new w #[.slice AR rs.length cR, .slice AZ zs.length cZ, .slice AL ls.length cL] 26).alloc (.cells #[.int .i64 F, .int .i64 T] 41)).alloc (.cells #[.slice none 0 0, .int .i64 0, .slice none 0 0] 45)
  have k2 := (Blk.new (w.alloc (.cells #[.slice AR rs.length cR, .slice AZ zs.length cZ, .slice AL ls.length cL] 26)) #[.int .i64 F, .int .i64 T] 41).alloc (.cells #[.slice none 0 0, .int .i64 0, .slice none 0 0] 45)
  have k3 := Blk.new ((w.alloc (.cells #[.slice AR rs.length cR, .slice AZ zs.length cZ, .slice AL ls.length cL] 26)).alloc (.cells #[.int .i64 F, .int .i64 T] 41)) #[.slice none 0 0, .int .i64 0, .slice none 0 0] 45
  rw [size_alloc] at k2
  rw [size_alloc, size_alloc] at k3
  have hEs := esOk_of h (res_mem hres)
  obtain ⟨e1, e2, e3, e4⟩ := hEs
  have hzo := H.zs z (res_mem hres)
  have hq1 := hzo.2.2.1
  have hq2 := hzo.2.2.2.1
  have HRU := Lib.hid (rub_of_book h)
  have HC := Lib.hid (fun (V : World) (hb : Below w.heap.size w V) => (show Calls Tryz.prog 43 #[.agg #[.slice AR rs.length cR, .slice AZ zs.length cZ, .slice AL ls.length cL], .string nm] V fun e w' => e = .returned (.tuple #[.agg #[.string z.name, .slice z.A z.eras.length z.cap], .int .i64 0]) ∧ Below V.heap.size V w' from by have := r_Resolve' AR AZ AL cR cZ cL rs zs ls nm hnm V (H.step hb) h; rw [hres] at this; exact this))
  have HZA := Lib.hid (fun (V : World) (hb : Below w.heap.size w V) => (hzo.2.1.below hb).more hb.size)
  have HEb := Lib.hid (show ∀ k, k < z.eras.length → (-100000 ≤ z.eras[k]!.off ∧ z.eras[k]!.off ≤ 100000) ∧ (0 ≤ z.eras[k]!.save ∧ z.eras[k]!.save ≤ 10800) ∧ z.eras[k]!.format.size ≤ maxLen from fun k hk => by
    have hm : z.eras[k]! ∈ z.eras := by rw [get_bang hk]; exact List.getElem_mem _
    have h4 := e4 _ hm
    exact ⟨by omega, h4.2, (hzo.2.2.2.2 _ hm).2.1⟩)
  have HTu := Lib.hid (fun (k : Nat) (hk : k < z.eras.length) (V : World) (hb : Below w.heap.size w V) => r_Turns AR AZ AL cR cZ cL zs.length ls.length rs z.eras[k]!.rules z.eras[k]!.off V (H.step hb).R (H.step hb).hR (H.step hb).mR (bookE_inv h).1.1 HRU.out (HEb.out k hk).1.1 (HEb.out k hk).1.2)
  have HTA := Lib.hid (fun (t : Int) (k : Nat) (hk : k < z.eras.length) (A : Option Addr) (c : Nat) (V : World) (hA : SlAt V V.heap.size 3 A ((trnL rs z.eras[k]!).map tuCells)) (hc : (trnL rs z.eras[k]!).length ≤ c) (hm : c ≤ maxLen) => (show Calls Tryz.prog 46 #[.agg #[.int .i64 z.eras[k]!.off, .string z.eras[k]!.rules, .int .i64 z.eras[k]!.save, .string z.eras[k]!.format, .int .i64 z.eras[k]!.until_], .slice A (trnL rs z.eras[k]!).length c, .int .i64 t] V fun e w' => e = .returned (tyV (tT rs z.eras k t)) ∧ Below V.heap.size V w' from r_typeOf z.eras[k]! A c (trnL rs z.eras[k]!) t V hA hc hm (trnL_sorted rs _) (trnL_len rs _) (trn_ok HRU.out H.rs _ (HEb.out k hk).1.1 (HEb.out k hk).1.2) (HEb.out k hk).2.1 (HEb.out k hk).1 (HEb.out k hk).2.2 (fun hh => (trn_no hh).2)))
  have HUb := Lib.hid (es_until h (res_mem hres))
  have HE4 := Lib.hid (And.intro e1 (And.intro e3 hq2))
  obtain ⟨N, hN⟩ : ∃ N, z.eras.length = N := ⟨_, rfl⟩
  obtain ⟨ZA, hZA⟩ : ∃ ZA, z.A = ZA := ⟨_, rfl⟩
  obtain ⟨zc, hzc⟩ : ∃ zc, z.cap = zc := ⟨_, rfl⟩
  have HN := Lib.hid hN
  have hN7 : N ≤ 700 := by rw [← hN]; exact e2
  have hN1 : 0 < N := by rw [← hN]; exact e1
  rw [hZA] at HC HZA
  rw [hzc] at HC hq1 hq2 HE4
  rw [hN] at HC hq1
  unfold maxLen at hq2
  obtain ⟨b5, o5, rfl⟩ : ∃ b o, ZA = some ⟨b, o, none⟩ := by
    obtain ⟨b, o, hh, _⟩ := HZA.out w (Below.refl _ _) (by rw [List.length_map, hN]; exact hN1)
    exact ⟨b, o, hh⟩
  have HEC := Lib.hid (fun (k : Nat) (hk : k < N) (V : World) (hA : SlAt V V.heap.size 5 (some ⟨b5, o5, none⟩) (z.eras.map erC)) => (show b5 < V.heap.size ∧ V.cell? ⟨b5, o5 + k * 5, none⟩ = some (.int .i64 z.eras[k]!.off) ∧ V.cell? ⟨b5, o5 + k * 5 + 1, none⟩ = some (.string z.eras[k]!.rules) ∧ V.cell? ⟨b5, o5 + k * 5 + 2, none⟩ = some (.int .i64 z.eras[k]!.save) ∧ V.cell? ⟨b5, o5 + k * 5 + 3, none⟩ = some (.string z.eras[k]!.format) ∧ V.cell? ⟨b5, o5 + k * 5 + 4, none⟩ = some (.int .i64 z.eras[k]!.until_) from by
    obtain ⟨b, o, e, hb, c0, c1, c2, c3, c4⟩ := er_at hA (by rw [HN.out]; exact hk : k < z.eras.length)
    simp only [Option.some.injEq, Addr.mk.injEq, and_true] at e
    obtain ⟨rfl, rfl⟩ := e
    rw [get_bang (by rw [HN.out]; exact hk)]
    exact ⟨hb, c0, c1, c2, c3, c4⟩))
  obtain ⟨W, hW⟩ : ∃ W, ((w.alloc (.cells #[.slice AR rs.length cR, .slice AZ zs.length cZ, .slice AL ls.length cL] 26)).alloc (.cells #[.int .i64 F, .int .i64 T] 41)).alloc (.cells #[.slice none 0 0, .int .i64 0, .slice none 0 0] 45) = W := ⟨_, rfl⟩
  rw [hW] at hb3 k1 k2 k3
  have HB := Lib.hid hb3
  have HK := Lib.hid k1
  have HS := Lib.hid k2
  have HT := Lib.hid k3
  obtain ⟨B, hBe⟩ : ∃ B, w.heap.size = B := ⟨_, rfl⟩
  have HBe := Lib.hid hBe
  have HE1 := Lib.hid hE1
  have HE2 := Lib.hid hE2
  have HOK := Lib.hid hOK
  clear hb1 hb2 hb3 k1 k2 k3 H h hres hE1 hE2 hOK e1 e2 e3 e4 hN hzo hZA hzc
  go_enter Tryz.func16, Tryz.ntmps16
  go_upto_region 1 with fail
  have hb0 := HB.out
  rw [hBe] at HT HK HS
  have kr := HK.out.cell
  have kl := HK.out.lt
  clear hBe
  go_wp2_with fail
  refine (HC.out _ hb0).mono ?_
  rintro e w2 ⟨rfl, hb2⟩
  have hb3 := hb2.alloc hb2.size (.cells #[.string z.name, .slice (some ⟨b5, o5, none⟩) N zc] 74)
  have HW := Lib.hid (TmW.mk (HK.out.step hb3) (HS.out.step hb3) (HT.out.step hb3) (Blk.new w2 #[.string z.name, .slice (some ⟨b5, o5, none⟩) N zc] 74) (HZA.out _ (hb0.trans (hb3.mono hb0.size))) (hb0.trans (hb3.mono hb0.size)))
  clear hb2 hb3 kr kl hb0 HC HK HS HT HB HZA
  go_upto_region 2 with fail
  obtain ⟨V, hV⟩ : ∃ V, w2.alloc (.cells #[.string z.name, .slice (some ⟨b5, o5, none⟩) N zc] 74) = V := ⟨_, rfl⟩
  obtain ⟨gz, hgz⟩ : ∃ gz, w2.heap.size = gz := ⟨_, rfl⟩
  rw [hV] at HW
  rw [hgz] at HW
  rw [hV, hgz]
  clear hV hgz
  have sr := HW.out.S.cell
  have sl := HW.out.S.lt
  by_cases hF0 : stE F = 0
  rotate_left
  · have HEE := Lib.hid (HE1.out (Or.inl hF0))
    have HIF := Lib.hid (show Calls Tryz.prog 44 #[.int .i64 F] V fun e w' => e = .returned (.bool false) ∧ V = w' from by have h := r_IsTime F V; rw [isTime_st, decide_eq_false hF0] at h; exact h)
    clear hF0
    go_wp2_with fail
    refine HIF.out.mono ?_
    rintro e w4 ⟨rfl, rfl⟩
    clear sr sl HIF
    have tr := HW.out.T.frz
    have tl := HW.out.T.lt
    have tc := HW.out.T.cell
    go_wp2_with fail
    have HF := Lib.hid (blk3 HW.out.T (x := .slice none 0 0) (y := .int .i64 0) (z := .slice none 0 0))
    have HBF := Lib.hid (show Below w.heap.size w (((V.setCell ⟨B + 1 + 1, 0, none⟩ (.slice none 0 0)).setCell ⟨B + 1 + 1, 1, none⟩ (.int .i64 0)).setCell ⟨B + 1 + 1, 2, none⟩ (.slice none 0 0)) from below3 HW.out.L (by have := HBe.out; omega))
    obtain ⟨U, hU⟩ : ∃ U, (((V.setCell ⟨B + 1 + 1, 0, none⟩ (.slice none 0 0)).setCell ⟨B + 1 + 1, 1, none⟩ (.int .i64 0)).setCell ⟨B + 1 + 1, 2, none⟩ (.slice none 0 0)) = U := ⟨_, rfl⟩
    rw [hU] at HF HBF ⊢
    have hf := HF.out.cell
    exact bodyPost_ret (v := .tuple #[.agg #[.slice none 0 0, .int .i64 0, .slice none 0 0], .int .i64 1]) (by simp [results, Tryz.results16, go_sem, hf]) rfl (by have he := HEE.out; subst he; exact tm_bad (by decide) HBF.out)
  have HIF := Lib.hid (show Calls Tryz.prog 44 #[.int .i64 F] V fun e w' => e = .returned (.bool true) ∧ V = w' from by have h := r_IsTime F V; rw [isTime_st, decide_eq_true hF0] at h; exact h)
  by_cases hT0 : stE T = 0
  rotate_left
  · have HEE := Lib.hid (HE1.out (Or.inr (Or.inl hT0)))
    have HIT := Lib.hid (show Calls Tryz.prog 44 #[.int .i64 T] V fun e w' => e = .returned (.bool false) ∧ V = w' from by have h := r_IsTime T V; rw [isTime_st, decide_eq_false hT0] at h; exact h)
    clear hT0 hF0
    go_wp2_with fail
    refine HIF.out.mono ?_
    rintro e w4 ⟨rfl, rfl⟩
    go_wp2_with fail
    refine HIT.out.mono ?_
    rintro e w4 ⟨rfl, rfl⟩
    clear sr sl HIF HIT
    have tr := HW.out.T.frz
    have tl := HW.out.T.lt
    have tc := HW.out.T.cell
    go_wp2_with fail
    have HF := Lib.hid (blk3 HW.out.T (x := .slice none 0 0) (y := .int .i64 0) (z := .slice none 0 0))
    have HBF := Lib.hid (show Below w.heap.size w (((V.setCell ⟨B + 1 + 1, 0, none⟩ (.slice none 0 0)).setCell ⟨B + 1 + 1, 1, none⟩ (.int .i64 0)).setCell ⟨B + 1 + 1, 2, none⟩ (.slice none 0 0)) from below3 HW.out.L (by have := HBe.out; omega))
    obtain ⟨U, hU⟩ : ∃ U, (((V.setCell ⟨B + 1 + 1, 0, none⟩ (.slice none 0 0)).setCell ⟨B + 1 + 1, 1, none⟩ (.int .i64 0)).setCell ⟨B + 1 + 1, 2, none⟩ (.slice none 0 0)) = U := ⟨_, rfl⟩
    rw [hU] at HF HBF ⊢
    have hf := HF.out.cell
    exact bodyPost_ret (v := .tuple #[.agg #[.slice none 0 0, .int .i64 0, .slice none 0 0], .int .i64 1]) (by simp [results, Tryz.results16, go_sem, hf]) rfl (by have he := HEE.out; subst he; exact tm_bad (by decide) HBF.out)
  have HIT := Lib.hid (show Calls Tryz.prog 44 #[.int .i64 T] V fun e w' => e = .returned (.bool true) ∧ V = w' from by have h := r_IsTime T V; rw [isTime_st, decide_eq_true hT0] at h; exact h)
  have HF0 := Lib.hid (And.intro hF0 hT0)
  clear hF0 hT0
  by_cases hTF : T ≤ F
  · have HEE := Lib.hid (HE1.out (Or.inr (Or.inr hTF)))
    go_wp2_with fail
    refine HIF.out.mono ?_
    rintro e w4 ⟨rfl, rfl⟩
    go_wp2_with fail
    refine HIT.out.mono ?_
    rintro e w4 ⟨rfl, rfl⟩
    clear HIF HIT
    go_upto_region 5 with fail
    clear sr sl
    have tr := HW.out.T.frz
    have tl := HW.out.T.lt
    have tc := HW.out.T.cell
    go_wp2_with fail
    have HF := Lib.hid (blk3 HW.out.T (x := .slice none 0 0) (y := .int .i64 0) (z := .slice none 0 0))
    have HBF := Lib.hid (show Below w.heap.size w (((V.setCell ⟨B + 1 + 1, 0, none⟩ (.slice none 0 0)).setCell ⟨B + 1 + 1, 1, none⟩ (.int .i64 0)).setCell ⟨B + 1 + 1, 2, none⟩ (.slice none 0 0)) from below3 HW.out.L (by have := HBe.out; omega))
    obtain ⟨U, hU⟩ : ∃ U, (((V.setCell ⟨B + 1 + 1, 0, none⟩ (.slice none 0 0)).setCell ⟨B + 1 + 1, 1, none⟩ (.int .i64 0)).setCell ⟨B + 1 + 1, 2, none⟩ (.slice none 0 0)) = U := ⟨_, rfl⟩
    rw [hU] at HF HBF ⊢
    have hf := HF.out.cell
    exact bodyPost_ret (v := .tuple #[.agg #[.slice none 0 0, .int .i64 0, .slice none 0 0], .int .i64 1]) (by simp [results, Tryz.results16, go_sem, hf]) rfl (by have he := HEE.out; subst he; exact tm_bad (by decide) HBF.out)
  have hFT : F < T := by omega
  go_wp2_with fail
  refine HIF.out.mono ?_
  rintro e w4 ⟨rfl, rfl⟩
  go_wp2_with fail
  refine HIT.out.mono ?_
  rintro e w4 ⟨rfl, rfl⟩
  clear HIF HIT HE1
  go_upto_region 6 with fail
  clear sr sl
  have zr := HW.out.Z.cell
  have zl := HW.out.Z.lt
  have hmk : ∀ V : World, (Instr.makeSlice 108 (.int .i64 (N : Int)) (.int .i64 (N : Int))).run Tryz.prog V = .ok (.slice (some ⟨V.heap.size, 0, none⟩) N N) (V.alloc (.cells (Array.replicate N (.slice none 0 0)) 27)) := fun V => by
    have h1 := run_make (P := Tryz.prog) V 108 27 iT (.slice none 0 0) Tryz.underlying108 hiT hy0 .i64 .i64 N N (by omega) (Int.le_refl _) (by rw [hy2]; omega) (by omega)
    rw [hy1, Int.toNat_natCast, show (Value.slice none 0 0).cells = #[.slice none 0 0] from rfl, made_one] at h1
    exact h1
  go_upto_region 7 with fail
  have HG := Lib.hid (TsW.new V N)
  obtain ⟨Bm, hBm⟩ : ∃ Bm, V.heap.size = Bm := ⟨_, rfl⟩
  have HWB := Lib.hid (fun (V' : World) (hb : Below V.heap.size V V') => HW.out.step hb)
  have HSB := Lib.hid (fun (V' : World) (hb : Below V.heap.size V V') => hb.size)
  have HBx := Lib.hid (show Below V.heap.size V ((V.alloc (.cells (Array.replicate N (.slice none 0 0)) 27)).alloc (.cells #[.slice (some ⟨V.heap.size, 0, none⟩) N N] 108)) from ((Below.refl _ _).alloc (Nat.le_refl _) _).alloc (by rw [size_alloc]; omega) _)
  rw [hBm] at HWB HSB HBx
  obtain ⟨W1, hW1⟩ : ∃ W1, (V.alloc (.cells (Array.replicate N (.slice none 0 0)) 27)).alloc (.cells #[.slice (some ⟨V.heap.size, 0, none⟩) N N] 108) = W1 := ⟨_, rfl⟩
  rw [hBm] at HG hW1
  rw [hBm, hW1]
  rw [hW1] at HG HBx
  have HB1 := HBx
  clear hBm hW1 HW hmk zr zl HBx
  have zr := (HWB.out W1 HB1.out).Z.cell
  have zl := (HWB.out W1 HB1.out).Z.lt
  go_wp2_with fail
  clear zr zl
  go_loopw [9, 57] (fun e i wr => ∃ (k : Nat) (L : List TsZ), k ≤ N ∧ i = .int .i64 k ∧ e = .int .i64 0 ∧ Hid (LkP rs z.eras k L) ∧ Hid (TsW wr Bm (Bm + 1) N L) ∧ Hid (Below Bm V wr)) (fun _ i _ => N - (intOf i).toNat)
  case atStart => exact ⟨0, _, Nat.zero_le _, rfl, rfl, Lib.hid (lk_zero _ _ _), HG, HB1⟩
  case round =>
    clear HG HB1
    obtain ⟨k, L, hk, rfl, rfl, HLk, HG, HB⟩ := hrel
    by_cases hk2 : k < N
    · obtain ⟨bl5, c0, c1, c2, c3, c4⟩ := HEC.out k hk2 wr (HWB.out wr HB.out).E
      have hTk := HTu.out k (by rw [HN.out]; exact hk2)
      have HNo := Lib.hid (fun (h : sEq z.eras[k]!.rules eMT = true) => lk_none HLk.out (trn_no (rs := rs) h))
      have HYes := Lib.hid (fun (h : sEq z.eras[k]!.rules eMT = false) (h0 : turnE rs z.eras[k]!.rules z.eras[k]!.off = 0) (A : Option Addr) (c : Nat) => (lk_set HLk.out (by rw [HG.out.ln]; exact hk2) (y := (A, c, turnL rs z.eras[k]!.rules z.eras[k]!.off)) (by rw [(trn_yes h).2]) (by rw [(trn_yes h).1]; exact h0) : LkP rs z.eras (k + 1) (L.set k (A, c, turnL rs z.eras[k]!.rules z.eras[k]!.off))))
      have HBad := Lib.hid (fun (h : sEq z.eras[k]!.rules eMT = false) (h0 : turnE rs z.eras[k]!.rules z.eras[k]!.off ≠ 0) => (show E = turnE rs z.eras[k]!.rules z.eras[k]!.off from by
        have h1 := (trn_yes (rs := rs) h).1
        have h2 := lk_bad HLk.out (by rw [HN.out]; exact hk2) (by rw [h1]; exact h0)
        rw [h1] at h2
        rw [HE2.out HF0.out.1 HF0.out.2 hFT (by rw [h2]; exact h0), h2]))
      obtain ⟨x, hx⟩ : ∃ x, z.eras[k]! = x := ⟨_, rfl⟩
      rw [hx] at c0 c1 c2 c3 c4 hTk HNo HYes HBad
      obtain ⟨TE, hTE⟩ : ∃ TE, turnE rs x.rules x.off = TE := ⟨_, rfl⟩
      obtain ⟨TL, hTL⟩ : ∃ TL, turnL rs x.rules x.off = TL := ⟨_, rfl⟩
      unfold TuPost at hTk
      rw [hTE] at hTk HYes HBad
      rw [hTL] at hTk HYes
      have HTk := Lib.hid (fun (V' : World) (hb : Below Bm V V') => hTk V' (HWB.out V' hb).L)
      have HGB := Lib.hid (Nat.le_refl Bm)
      clear hx hTE hTL hTk HLk
      have hi1 : (0 : Int) ≤ (k : Int) := by omega
      have hi2 : (k : Int) < (N : Int) := by omega
      have hV := (Below.refl wr.heap.size wr).alloc (Nat.le_refl _) (.cells #[.int .i64 x.off, .string x.rules, .int .i64 x.save, .string x.format, .int .i64 x.until_] 93)
      have HX := Lib.hid (Blk.new wr #[.int .i64 x.off, .string x.rules, .int .i64 x.save, .string x.format, .int .i64 x.until_] 93)
      replace HG := Lib.hid (HG.out.step hV)
      replace HB := Lib.hid (HB.out.trans (hV.mono (HSB.out _ HB.out)))
      clear hV
      have hm2 := mt_em x.rules
      go_upto_if 64 with fail
      obtain ⟨V2, hV2⟩ : ∃ V2, wr.alloc (.cells #[.int .i64 x.off, .string x.rules, .int .i64 x.save, .string x.format, .int .i64 x.until_] 93) = V2 := ⟨_, rfl⟩
      obtain ⟨gx, hgx⟩ : ∃ gx, wr.heap.size = gx := ⟨_, rfl⟩
      rw [hV2] at HG HB HX ⊢
      rw [hgx] at HX ⊢
      clear hV2 hgx c0 c1 c2 c3 c4 bl5
      cases hE : sEq x.rules eMT with
      | true =>
        rw [hE] at hm2
        simp only [hm2, Bool.not_true]
        have HLk2 := Lib.hid (HNo.out hE)
        clear HNo HYes HBad hm2 hE HTk
        go_wp2_with fail
        exact ⟨⟨k + 1, L, by omega, by go_num, rfl, HLk2, HG, HB⟩, by simp only [intOf]; omega⟩
      | false =>
        rw [hE] at hm2
        simp only [hm2, Bool.not_false]
        have HYe := Lib.hid (HYes.out hE)
        have HBa := Lib.hid (HBad.out hE)
        have HBV := HB
        clear HNo HYes HBad hm2 hE
        go_upto_region 11 with fail
        refine wp_region_noPanic ?_
        refine wp_region_held_drew (S := fun W' : World => Below Bm V W' ∧ Blk W' (Bm + 1) 108 #[.slice (some ⟨Bm, 0, none⟩) N N] ∧ Blk W' gx 93 #[.int .i64 x.off, .string x.rules, .int .i64 x.save, .string x.format, .int .i64 x.until_]) (by kernel_rfl) ⟨HBV.out.drew, HG.out.bt.drew, HX.out.drew⟩ (fun hHeld0 => ?_)
        have hHeld := hHeld0
        clear hHeld0
        refine wpAnyH_take (i := 0) (v := ?_) rfl (by kernel_rfl) (by kernel_rfl) (by kernel_rfl) (fun _ _ _ h => h) (Or.inl ⟨by rfl, ?_⟩) hHeld ?_
        rotate_left
        · intro wq hSw
          have tc := hSw.2.1.cell
          have tl := hSw.2.1.lt
          go_simp
          try with_reducible rfl
        try simp only [Act.put, List.getElem_toArray, List.getElem_cons_succ, List.getElem_cons_zero, List.setIfInBounds_toArray, List.set_cons_zero, List.set_cons_succ]
        refine wpAnyH_take (i := 1) (v := ?_) rfl (by kernel_rfl) (by kernel_rfl) (by kernel_rfl) (fun _ _ _ h => h) (Or.inl ⟨by rfl, ?_⟩) hHeld ?_
        rotate_left
        · intro wq hSw
          go_simp
          try with_reducible rfl
        try simp only [Act.put, List.getElem_toArray, List.getElem_cons_succ, List.getElem_cons_zero, List.setIfInBounds_toArray, List.set_cons_zero, List.set_cons_succ]
        refine wpAnyH_take (i := 2) (v := ?_) rfl (by kernel_rfl) (by kernel_rfl) (by kernel_rfl) (fun _ _ _ h => h) (Or.inl ⟨by rfl, ?_⟩) hHeld ?_
        rotate_left
        · intro wq hSw
          have kc := (HWB.out _ hSw.1).K.cell
          have kl := (HWB.out _ hSw.1).K.lt
          go_simp
          try with_reducible rfl
        try simp only [Act.put, List.getElem_toArray, List.getElem_cons_succ, List.getElem_cons_zero, List.setIfInBounds_toArray, List.set_cons_zero, List.set_cons_succ]
        refine wpAnyH_take (i := 3) (v := ?_) rfl (by kernel_rfl) (by kernel_rfl) (by kernel_rfl) (fun _ _ _ h => h) (Or.inl ⟨by rfl, ?_⟩) hHeld ?_
        rotate_left
        · intro wq hSw
          go_simp
          try with_reducible rfl
        try simp only [Act.put, List.getElem_toArray, List.getElem_cons_succ, List.getElem_cons_zero, List.setIfInBounds_toArray, List.set_cons_zero, List.set_cons_succ]
        refine wpAnyH_take (i := 4) (v := ?_) rfl (by kernel_rfl) (by kernel_rfl) (by kernel_rfl) (fun _ _ _ h => h) (Or.inl ⟨by rfl, ?_⟩) hHeld ?_
        rotate_left
        · intro wq hSw
          have xc := hSw.2.2.cell
          have xl := hSw.2.2.lt
          go_simp
          try with_reducible rfl
        try simp only [Act.put, List.getElem_toArray, List.getElem_cons_succ, List.getElem_cons_zero, List.setIfInBounds_toArray, List.set_cons_zero, List.set_cons_succ]
        refine wpAnyH_take (i := 5) (v := ?_) rfl (by kernel_rfl) (by kernel_rfl) (by kernel_rfl) (fun _ _ _ h => h) (Or.inl ⟨by rfl, ?_⟩) hHeld ?_
        rotate_left
        · intro wq hSw
          go_simp
          try with_reducible rfl
        try simp only [Act.put, List.getElem_toArray, List.getElem_cons_succ, List.getElem_cons_zero, List.setIfInBounds_toArray, List.set_cons_zero, List.set_cons_succ]
        refine wpAnyH_take (i := 6) (v := ?_) rfl (by kernel_rfl) (by kernel_rfl) (by kernel_rfl) (fun _ _ _ h => h) (Or.inl ⟨by rfl, ?_⟩) hHeld ?_
        rotate_left
        · intro wq hSw
          have xc := hSw.2.2.cell
          have xl := hSw.2.2.lt
          go_simp
          try with_reducible rfl
        try simp only [Act.put, List.getElem_toArray, List.getElem_cons_succ, List.getElem_cons_zero, List.setIfInBounds_toArray, List.set_cons_zero, List.set_cons_succ]
        refine wpAnyH_ready (rs := [7]) (by kernel_rfl) (by simp) ?_
        refine AllReadyH.cons rfl (fun K hK => ?_) AllReadyH.nil
        go_simp
        go_at_call 11
        refine (HTk.out _ hHeld.1).mono ?_
        rintro e w9 ⟨v, rfl, hv, hb9⟩
        obtain ⟨A9, c9, rfl, q1, q2, hA9⟩ := own_tu hv
        have HG9 := Lib.hid ((HG.out.step (Below.refl _ _).drew).step hb9)
        have HY := Lib.hid (And.intro hA9 (And.intro q1 (And.intro q2 (show Above (Bm + 1) A9 from fun a ha => by have h1 := (hv.lt a.block (by rw [ha]; rfl)).1; have h2 := HG.out.bk.drew.lt; omega))))
        have hS8 := And.intro (hHeld.1.trans (hb9.mono (HSB.out _ hHeld.1))) (And.intro (hHeld.2.1.step hb9) (hHeld.2.2.step hb9))
        try go_wp2_with fail
        refine hK.out _ _ hS8 (fun hHeld2 => ?_)
        clear hK K hHeld hb9 hv hA9 q1 q2
        have hHeld := hS8
        clear hS8 hHeld2
        try simp only [Act.put, List.getElem_toArray, List.getElem_cons_succ, List.getElem_cons_zero, List.setIfInBounds_toArray, List.set_cons_zero, List.set_cons_succ]
        refine wpAnyH_take (i := 8) (v := ?_) rfl (by kernel_rfl) (by kernel_rfl) (by kernel_rfl) (fun _ _ _ h => h) (Or.inl ⟨by rfl, ?_⟩) hHeld ?_
        rotate_left
        · intro wq hSw
          go_simp
          try with_reducible rfl
        try simp only [Act.put, List.getElem_toArray, List.getElem_cons_succ, List.getElem_cons_zero, List.setIfInBounds_toArray, List.set_cons_zero, List.set_cons_succ]
        refine wpAnyH_take (i := 9) (v := ?_) rfl (by kernel_rfl) (by kernel_rfl) (by kernel_rfl) (fun _ _ _ h => h) (Or.inl ⟨by rfl, ?_⟩) hHeld ?_
        rotate_left
        · intro wq hSw
          go_simp
          try with_reducible rfl
        try simp only [Act.put, List.getElem_toArray, List.getElem_cons_succ, List.getElem_cons_zero, List.setIfInBounds_toArray, List.set_cons_zero, List.set_cons_succ]
        refine wpAnyH_take (i := 10) (v := ?_) rfl (by kernel_rfl) (by kernel_rfl) (by kernel_rfl) (fun _ _ _ h => h) (Or.inl ⟨by rfl, ?_⟩) hHeld ?_
        rotate_left
        · intro wq hSw
          go_simp
          try with_reducible rfl
        try simp only [Act.put, List.getElem_toArray, List.getElem_cons_succ, List.getElem_cons_zero, List.setIfInBounds_toArray, List.set_cons_zero, List.set_cons_succ]
        refine wpAnyH_take (i := 11) (v := ?_) rfl (by kernel_rfl) (by kernel_rfl) (by kernel_rfl) (fun _ _ _ h => h) (Or.inl ⟨by rfl, ?_⟩) hHeld ?_
        rotate_left
        · intro wq hSw
          go_simp
          try with_reducible rfl
        try simp only [Act.put, List.getElem_toArray, List.getElem_cons_succ, List.getElem_cons_zero, List.setIfInBounds_toArray, List.set_cons_zero, List.set_cons_succ]
        refine wpAnyH_ready (rs := [12]) (by kernel_rfl) (by simp) ?_
        refine AllReadyH.cons rfl (fun K hK => ?_) AllReadyH.nil
        have q1 := HG9.out.at hk2
        have q2 := HG9.out.bk.frz
        have q3 := HG9.out.bk.lt
        have hS8 := And.intro (hHeld.1.setCell (p := ⟨Bm, k, none⟩) HGB.out (.slice A9 TL.length c9)) (And.intro (hHeld.2.1.far (a := ⟨Bm, k, none⟩) HG9.out.lt.symm (.slice A9 TL.length c9)) (hHeld.2.2.far (a := ⟨Bm, k, none⟩) (HG9.out.bk.ne hHeld.2.2 (by decide)).symm (.slice A9 TL.length c9)))
        go_simp
        refine hK.out _ _ hS8 (fun hHeld2 => ?_)
        clear hK K q1 q2 q3 hHeld2 hHeld
        have hHeld := hS8
        clear hS8
        try simp only [Act.put, List.getElem_toArray, List.getElem_cons_succ, List.getElem_cons_zero, List.setIfInBounds_toArray, List.set_cons_zero, List.set_cons_succ]
        refine wpAnyH_take (i := 13) (v := ?_) rfl (by kernel_rfl) (by kernel_rfl) (by kernel_rfl) (fun _ _ _ h => h) (Or.inl ⟨by rfl, ?_⟩) hHeld ?_
        rotate_left
        · intro wq hSw
          go_simp
          try with_reducible rfl
        try simp only [Act.put, List.getElem_toArray, List.getElem_cons_succ, List.getElem_cons_zero, List.setIfInBounds_toArray, List.set_cons_zero, List.set_cons_succ]
        refine wpAnyH_done (by kernel_rfl) ?_ _
        refine NoPanic.normal ?_
        have HG10 := Lib.hid (HG9.out.set (k := k) (y := (A9, c9, TL)) HY.out)
        have HB10 := Lib.hid hHeld.1
        have HL2 := Lib.hid (show tsV (A9, c9, TL) = .slice A9 TL.length c9 from rfl)
        obtain ⟨U9, hU⟩ : ∃ U9, w9.setCell ⟨Bm, k, none⟩ (.slice A9 TL.length c9) = U9 := ⟨_, rfl⟩
        rw [HL2.out, hU] at HG10
        rw [hU] at HB10 ⊢
        clear hU HG9 HY hHeld HG HX HBV HL2 HB HTk HGB
        by_cases h0 : TE = 0
        · subst h0
          have HLk2 := Lib.hid (HYe.out rfl A9 c9)
          clear HYe HBa
          go_wp2_with fail
          exact ⟨⟨k + 1, L.set k (A9, c9, TL), by omega, by go_num, rfl, HLk2, HG10, HB10⟩, by simp only [intOf]; omega⟩
        · have HEE := Lib.hid (HBa.out h0)
          have h2 : (TE != 0) = true := by rw [bne_iff_ne]; exact h0
          have HE0' := Lib.hid h0
          clear h0 HYe HBa HG10
          have HWU := Lib.hid (HWB.out _ HB10.out)
          have tr := HWU.out.T.frz
          have tl := HWU.out.T.lt
          have tc := HWU.out.T.cell
          go_wp2_with fail
          have HF := Lib.hid (blk3 HWU.out.T (x := .slice none 0 0) (y := .int .i64 0) (z := .slice none 0 0))
          have HBF := Lib.hid (show Below w.heap.size w (((U9.setCell ⟨B + 1 + 1, 0, none⟩ (.slice none 0 0)).setCell ⟨B + 1 + 1, 1, none⟩ (.int .i64 0)).setCell ⟨B + 1 + 1, 2, none⟩ (.slice none 0 0)) from below3 HWU.out.L (by have := HBe.out; omega))
          obtain ⟨U, hU⟩ : ∃ U, (((U9.setCell ⟨B + 1 + 1, 0, none⟩ (.slice none 0 0)).setCell ⟨B + 1 + 1, 1, none⟩ (.int .i64 0)).setCell ⟨B + 1 + 1, 2, none⟩ (.slice none 0 0)) = U := ⟨_, rfl⟩
          rw [hU] at HF HBF ⊢
          have hf := HF.out.cell
          exact bodyPost_ret (v := .tuple #[.agg #[.slice none 0 0, .int .i64 0, .slice none 0 0], .int .i64 TE]) (by simp [results, Tryz.results16, go_sem, hf]) rfl (by have he := HEE.out; have h0 := HE0'.out; subst he; exact tm_bad h0 HBF.out)
    · have hkN : k = N := by omega
      have hlt' : ¬ (k : Int) < (N : Int) := by omega
      rw [hkN] at HLk
      have hAll := lk_all (by rw [HN.out]; exact HLk.out : LkP rs z.eras z.eras.length L)
      have HTs := Lib.hid hAll.2
      have HSE := Lib.hid (HOK.out HF0.out.1 HF0.out.2 hFT hAll.1)
      clear HLk HOK HE2 HTu hAll hkN
      have zr := (HWB.out wr HB.out).Z.cell
      have zl := (HWB.out wr HB.out).Z.lt
      go_wp2_with fail
      clear zr zl hlt' hk2 hk
      generalize wr = W9 at *
      obtain ⟨Bn, hBn⟩ : ∃ Bn, W9.heap.size = Bn := ⟨_, rfl⟩
      have HWC := Lib.hid (fun (V' : World) (hb : Below W9.heap.size W9 V') => (HWB.out W9 HB.out).step hb)
      have HGC := Lib.hid (fun (V' : World) (hb : Below W9.heap.size W9 V') => HG.out.step hb)
      have HSC := Lib.hid (fun (V' : World) (hb : Below W9.heap.size W9 V') => hb.size)
      have HB9 := Lib.hid (Below.refl W9.heap.size W9)
      have hBl := HG.out.bt.lt
      rw [hBn] at HWC HGC HSC HB9 hBl
      clear HG HB HWB HSB hBn
      obtain ⟨hFb1, hFb2⟩ := stE_bd HF0.out.1
      obtain ⟨hTb1, hTb2⟩ := stE_bd HF0.out.2
      have hw1 : IntKind.i64.wrap (F + 1) = F + 1 := IntWalk.i64_in _ (by omega)
      have hw2 : IntKind.i64.wrap (T - 1) = T - 1 := IntWalk.i64_in _ (by omega)
      have hwN : IntKind.i64.wrap ((N : Int) - 1) = (N : Int) - 1 := IntWalk.i64_in _ (by omega)
      go_loopw [13, 85] (fun at_ i wr => ∃ k : Nat, k ≤ N ∧ i = .int .i64 k ∧ Hid (wr.ownsRow Bn 3 1 at_ (refL rs z.eras F T k).length ((refL rs z.eras F T k).map inCells).flatten) ∧ Hid (Below Bn W9 wr)) (fun _ i _ => N - (intOf i).toNat)
      case atStart => exact ⟨0, Nat.zero_le _, rfl, Lib.hid (World.ownsRow_nil _ _ _ _), HB9⟩
      case round =>
        clear HB9
        obtain ⟨k, hk, rfl, HO, HB⟩ := hrel
        by_cases hk2 : k < N
        · obtain ⟨bl5, c0, c1, c2, c3, c4⟩ := HEC.out k hk2 wr (HWC.out wr HB.out).E
          have HLo := Lib.hid (show loK z.eras F k = if k = 0 then F + 1 else max (F + 1) z.eras[k - 1]!.until_ from rfl)
          have HHi := Lib.hid (show hiK z.eras T k = if k + 1 < N then min (T - 1) (z.eras[k]!.until_ - 1) else T - 1 by unfold hiK; rw [HN.out])
          have HRf := Lib.hid (show refL rs z.eras F T (k + 1) = refL rs z.eras F T k ++ if hiK z.eras T k < loK z.eras F k then [] else loK z.eras F k :: evs (trnL rs z.eras[k]!) (loK z.eras F k + 1) (hiK z.eras T k) by rw [refL_succ]; rfl)
          have HUk := Lib.hid (fun (h : k + 1 < N) => HUb.out k (by rw [HN.out]; exact h))
          have hRl := refL_len rs z.eras F T k
          obtain ⟨M, hM⟩ : ∃ M, refL rs z.eras F T k = M := ⟨_, rfl⟩
          rw [hM] at HO HRf hRl
          obtain ⟨lo, hlo⟩ : ∃ lo, loK z.eras F k = lo := ⟨_, rfl⟩
          obtain ⟨hi, hhi⟩ : ∃ hi, hiK z.eras T k = hi := ⟨_, rfl⟩
          rw [hlo] at HLo HRf
          rw [hhi] at HHi HRf
          have HTl := Lib.hid (fun (V' : World) (hb : Below Bn W9 V') => (show V'.cell? ⟨Bm, k, none⟩ = some (.slice (L.getD k default).1 (trnL rs z.eras[k]!).length (L.getD k default).2.1) ∧ SlAt V' V'.heap.size 3 (L.getD k default).1 ((trnL rs z.eras[k]!).map tuCells) ∧ (trnL rs z.eras[k]!).length ≤ (L.getD k default).2.1 ∧ (L.getD k default).2.1 ≤ maxLen from by
            have h1 := (HGC.out V' hb).at hk2
            have h2 := (HGC.out V' hb).sl hk2
            unfold tsV at h1
            rw [HTs.out k (by rw [HN.out]; exact hk2)] at h1 h2
            exact ⟨h1, h2⟩))
          have hLl := trnL_len rs z.eras[k]!
          obtain ⟨x, hx⟩ : ∃ x, z.eras[k]! = x := ⟨_, rfl⟩
          rw [hx] at c0 c1 c2 c3 c4 HHi HRf HUk HTl hLl
          obtain ⟨l, hl⟩ : ∃ l, trnL rs x = l := ⟨_, rfl⟩
          obtain ⟨a1, ha1⟩ : ∃ a1, (L.getD k default).1 = a1 := ⟨_, rfl⟩
          obtain ⟨d1, hd1⟩ : ∃ d1, (L.getD k default).2.1 = d1 := ⟨_, rfl⟩
          rw [hl] at HRf HTl hLl
          rw [ha1, hd1] at HTl
          clear hx hl ha1 hd1 hM hlo hhi
          have hi1 : (0 : Int) ≤ (k : Int) := by omega
          have hi2 : (k : Int) < (N : Int) := by omega
          have hV := (Below.refl wr.heap.size wr).alloc (Nat.le_refl _) (.cells #[.int .i64 x.off, .string x.rules, .int .i64 x.save, .string x.format, .int .i64 x.until_] 93)
          have HX := Lib.hid (Blk.new wr #[.int .i64 x.off, .string x.rules, .int .i64 x.save, .string x.format, .int .i64 x.until_] 93)
          replace HO := Lib.hid (own_step HO.out hV)
          replace HB := Lib.hid (HB.out.trans (hV.mono (HSC.out _ HB.out)))
          clear hV
          go_upto_region 19 with fail
          obtain ⟨V2, hV2⟩ : ∃ V2, wr.alloc (.cells #[.int .i64 x.off, .string x.rules, .int .i64 x.save, .string x.format, .int .i64 x.until_] 93) = V2 := ⟨_, rfl⟩
          obtain ⟨gx, hgx⟩ : ∃ gx, wr.heap.size = gx := ⟨_, rfl⟩
          rw [hV2] at HO HB HX ⊢
          rw [hgx] at HX ⊢
          clear hV2 hgx c0 c1 c2 c3 c4 bl5
          have sr := (HWC.out _ HB.out).S.cell
          have sl := (HWC.out _ HB.out).S.lt
          go_quiet (fail)
          rename_i nq
          have hVq := below_drewN (Below.refl V2.heap.size V2) nq
          replace HX := Lib.hid (HX.out.step hVq)
          replace HO := Lib.hid (own_step HO.out hVq)
          replace HB := Lib.hid (HB.out.trans (hVq.mono (HSC.out _ HB.out)))
          clear hVq sr sl
          obtain ⟨V3, hV3⟩ : ∃ V3, V2.drewN nq = V3 := ⟨_, rfl⟩
          rw [hV3] at HO HB HX ⊢
          clear hV3
          have zr := (HWC.out _ HB.out).Z.cell
          have zl := (HWC.out _ HB.out).Z.lt
          go_upto_if 97 with fail
          go_cut [16] from 96 to 106 (fun v wx => v = .int .i64 lo ∧ wx = V3)
          case first =>
            by_cases hk0 : k = 0
            · have hk1 : ¬ (0 : Int) < (k : Int) := by omega
              have HL2 := Lib.hid (show lo = F + 1 by rw [HLo.out, if_pos hk0])
              clear hk0
              go_wp2_with fail
              go_meet
              exact ⟨by rw [HL2.out], rfl⟩
            · have hk1 : (0 : Int) < (k : Int) := by omega
              have HL2 := Lib.hid (show lo = max (F + 1) z.eras[k - 1]!.until_ by rw [HLo.out, if_neg hk0])
              obtain ⟨j, hj⟩ : ∃ j, k - 1 = j := ⟨_, rfl⟩
              rw [hj] at HL2
              have hwj : IntKind.i64.wrap ((k : Int) - 1) = (j : Int) := by rw [show (k : Int) - 1 = (j : Int) by omega]; exact IntWalk.i64_in _ (by omega)
              have hj1 : (0 : Int) ≤ (j : Int) := by omega
              have hj2 : (j : Int) < (N : Int) := by omega
              obtain ⟨bl5, c0, c1, c2, c3, c4⟩ := HEC.out j (by omega) V3 (HWC.out V3 HB.out).E
              obtain ⟨y, hy⟩ : ∃ y, z.eras[j]! = y := ⟨_, rfl⟩
              rw [hy] at c0 c1 c2 c3 c4 HL2
              clear hy hj
              go_wp2_with fail
              go_meet
              exact ⟨by rw [HL2.out], rfl⟩
          case rest =>
            obtain ⟨hv, hwc⟩ := hcut
            subst hv
            have hwc2 := hwc.symm
            clear hwc
            subst hwc2
            have xc := HX.out.cell
            have xl := HX.out.lt
            go_upto_if 112 with fail
            go_cut [17] from 107 to 117 (fun v wx => v = .int .i64 hi ∧ wx = V3)
            case first =>
              by_cases hk1 : k + 1 < N
              · have hl' : (k : Int) < (N : Int) - 1 := by omega
                obtain ⟨hu1, hu2⟩ := HUk.out hk1
                have hw3 : IntKind.i64.wrap (x.until_ - 1) = x.until_ - 1 := IntWalk.i64_in _ (by omega)
                have HH2 := Lib.hid (show hi = min (T - 1) (x.until_ - 1) by rw [HHi.out, if_pos hk1])
                go_wp2_with fail
                go_meet
                exact ⟨by rw [HH2.out], rfl⟩
              · have hl' : ¬ (k : Int) < (N : Int) - 1 := by omega
                have HH2 := Lib.hid (show hi = T - 1 by rw [HHi.out, if_neg hk1])
                go_wp2_with fail
                go_meet
                exact ⟨by rw [HH2.out], rfl⟩
            case rest =>
              obtain ⟨hv, hwc⟩ := hcut
              subst hv
              have hwc2 := hwc.symm
              clear hwc
              subst hwc2
              clear zr zl xc xl HLo HHi HUk HX
              by_cases hc : hi < lo
              · have HR2 := Lib.hid (show refL rs z.eras F T (k + 1) = M by rw [HRf.out, if_pos hc, List.append_nil])
                clear HRf HTl
                go_wp2_with fail
                exact ⟨⟨k + 1, by omega, by go_num, Lib.hid (by rw [HR2.out]; exact HO.out), HB⟩, by simp only [intOf]; omega⟩
              · have HR2 := Lib.hid (show refL rs z.eras F T (k + 1) = (M ++ [lo]) ++ evs l (lo + 1) hi by rw [HRf.out, if_neg hc, List.append_assoc]; rfl)
                clear HRf
                have hzV := HSC.out _ HB.out
                obtain ⟨Q, hQ⟩ : ∃ Q, (M.map inCells).flatten = Q := ⟨_, rfl⟩
                rw [hQ] at HO
                go_upto_region 26 with (at_builtin; refine wpList_append_lies _ rfl _ _ _ rfl Bn 3 i0 _ 1 8 Tryz.underlying101 hi0 hz0 hz1 hz2 rfl (by omega) u13 M.length _ rfl (World.ownsRow.alloc HO.out _) ⟨V3.heap.size, 0, none⟩ 1 1 [.int .i64 lo] rfl rfl (World.news_of_block (cs := #[.int .i64 lo]) (t := 3) (fr := (0, 0)) (heap_alloc_new V3 _)) (by simp [Value.oneCell']) (by omega) (by unfold maxLen; omega) (by omega) (by simp; omega) (V3.heap.size + 1) (by simp) ?_; intro gg cap2 w6 hown1 hgrow hat hlt6)
                have hoa := World.ownsRow.alloc HO.out (.cells #[.int .i64 lo] 3)
                have HO6 := Lib.hid (show w6.ownsRow Bn 3 1 (.slice (some ⟨gg, 0, none⟩) (M.length + 1) cap2) (M ++ [lo]).length ((M ++ [lo]).map inCells).flatten by
                  have e1 : (M ++ [lo]).length = M.length + 1 := by simp
                  have e2 : ((M ++ [lo]).map inCells).flatten = Q ++ [.int .i64 lo] := by rw [List.map_append, List.flatten_append, hQ]; rfl
                  rw [e1, e2]; exact hown1)
                have HB6 := Lib.hid ((HB.out.alloc hzV (.cells #[.int .i64 lo] 3)).grown hgrow (by simp; omega) (fun k hk => (World.ownsRow.lt hoa k hk).1))
                clear hown1 hgrow hat hlt6 hoa HO HB hQ
                have tc := (HGC.out w6 HB6.out).bt.cell
                have tl := (HGC.out w6 HB6.out).bt.lt
                have gc := (HTl.out w6 HB6.out).1
                have gl := (HGC.out w6 HB6.out).bk.lt
                have hld := (HTl.out w6 HB6.out).2.2.1
                have hdm := (HTl.out w6 HB6.out).2.2.2
                unfold maxLen at hdm
                go_wp2_with fail
                clear tc tl gc gl
                go_loopw [13, 130] (fun at_ i wr => ∃ j : Nat, j ≤ l.length ∧ i = .int .i64 j ∧ Hid (wr.ownsRow Bn 3 1 at_ ((M ++ [lo]) ++ evs (l.take j) (lo + 1) hi).length ((((M ++ [lo]) ++ evs (l.take j) (lo + 1) hi).map inCells).flatten)) ∧ Hid (Below Bn W9 wr)) (fun _ i _ => l.length - (intOf i).toNat)
                case atStart => exact ⟨0, Nat.zero_le _, rfl, Lib.hid (by have h := HO6.out; rw [show evs (l.take 0) (lo + 1) hi = [] from rfl, List.append_nil]; exact h), HB6⟩
                case round =>
                  clear HO6 HB6
                  obtain ⟨j, hj, rfl, HO, HB⟩ := hrel
                  by_cases hj2 : j < l.length
                  · obtain ⟨b, o, rfl, hb, c0, c1, c2⟩ := tu_at (HTl.out _ HB.out).2.1 hj2
                    have hi3 : (0 : Int) ≤ (j : Int) := by omega
                    have hi4 : (j : Int) < (l.length : Int) := by omega
                    have HE := Lib.hid (evs_take (lo := lo + 1) (hi := hi) hj2)
                    have hl2 := evs_len (l.take j) (lo + 1) hi
                    rw [List.length_take] at hl2
                    obtain ⟨u, hu⟩ : ∃ u, l[j] = u := ⟨_, rfl⟩
                    rw [hu] at c0 c1 c2 HE
                    obtain ⟨Y, hY⟩ : ∃ Y, evs (l.take j) (lo + 1) hi = Y := ⟨_, rfl⟩
                    rw [hY] at HO HE hl2
                    obtain ⟨M2, hM2⟩ : ∃ M2, (M ++ [lo]) ++ Y = M2 := ⟨_, rfl⟩
                    have hm2l : M2.length ≤ 1501 * k + 1 + l.length := by rw [← hM2]; simp; omega
                    have HM2 := Lib.hid hM2
                    rw [hM2] at HO
                    clear hu hY hM2 hl2
                    have hV := (Below.refl wr.heap.size wr).alloc (Nat.le_refl _) (.cells #[.int .i64 u.1, .int .i64 u.2.1, .string u.2.2] 34)
                    have HX := Lib.hid (Blk.new wr #[.int .i64 u.1, .int .i64 u.2.1, .string u.2.2] 34)
                    replace HO := Lib.hid (own_step HO.out hV)
                    replace HB := Lib.hid (HB.out.trans (hV.mono (HSC.out _ HB.out)))
                    clear hV
                    by_cases h1 : lo < u.1
                    · by_cases h2 : u.1 ≤ hi
                      · have HE2 := Lib.hid (show (M ++ [lo]) ++ evs (l.take (j + 1)) (lo + 1) hi = M2 ++ [u.1] by rw [HE.out, if_pos ⟨by omega, h2⟩, ← List.append_assoc, HM2.out])
                        clear HE HM2
                        obtain ⟨Q, hQ⟩ : ∃ Q, (M2.map inCells).flatten = Q := ⟨_, rfl⟩
                        rw [hQ] at HO
                        replace hQ := Lib.hid hQ
                        go_upto_region 30 with fail
                        obtain ⟨V4, hV4⟩ : ∃ V4, wr.alloc (.cells #[.int .i64 u.1, .int .i64 u.2.1, .string u.2.2] 34) = V4 := ⟨_, rfl⟩
                        obtain ⟨g4, hg4⟩ : ∃ g, wr.heap.size = g := ⟨_, rfl⟩
                        rw [hV4] at HO HB HX ⊢
                        rw [hg4] at HX ⊢
                        clear hV4 hg4 c0 c1 c2
                        have xc := HX.out.cell
                        have xl := HX.out.lt
                        have hzV := HSC.out _ HB.out
                        go_wp2_with (at_builtin; refine wpList_append_lies _ rfl _ _ _ rfl Bn 3 i0 _ 1 8 Tryz.underlying101 hi0 hz0 hz1 hz2 rfl (by omega) u13 M2.length _ rfl (World.ownsRow.alloc HO.out _) ⟨V4.heap.size, 0, none⟩ 1 1 [.int .i64 u.1] rfl rfl (World.news_of_block (cs := #[.int .i64 u.1]) (t := 3) (fr := (0, 0)) (heap_alloc_new V4 _)) (by simp [Value.oneCell']) (by omega) (by unfold maxLen; omega) (by omega) (by simp; omega) (V4.heap.size + 1) (by simp) ?_; intro gg cap2 w6 hown1 hgrow hat hlt6)
                        have hoa := World.ownsRow.alloc HO.out (.cells #[.int .i64 u.1] 3)
                        exact ⟨⟨j + 1, by omega, by go_num, Lib.hid (by
                          have e1 : (M2 ++ [u.1]).length = M2.length + 1 := by simp
                          have e2 : ((M2 ++ [u.1]).map inCells).flatten = Q ++ [.int .i64 u.1] := by rw [List.map_append, List.flatten_append, hQ.out]; rfl
                          rw [HE2.out, e1, e2]; exact hown1), Lib.hid ((HB.out.alloc hzV _).grown hgrow (by simp; omega) (fun k hk => (World.ownsRow.lt hoa k hk).1))⟩, by simp only [intOf]; omega⟩
                      · have HE2 := Lib.hid (show (M ++ [lo]) ++ evs (l.take (j + 1)) (lo + 1) hi = M2 by rw [HE.out, if_neg (fun h => h2 h.2), List.append_nil, HM2.out])
                        clear HE HX HM2
                        go_wp2_with fail
                        exact ⟨⟨j + 1, by omega, by go_num, Lib.hid (by rw [HE2.out]; exact HO.out), HB⟩, by simp only [intOf]; omega⟩
                    · have HE2 := Lib.hid (show (M ++ [lo]) ++ evs (l.take (j + 1)) (lo + 1) hi = M2 by rw [HE.out, if_neg (fun h => by have := h.1; omega), List.append_nil, HM2.out])
                      clear HE HX HM2
                      go_wp2_with fail
                      exact ⟨⟨j + 1, by omega, by go_num, Lib.hid (by rw [HE2.out]; exact HO.out), HB⟩, by simp only [intOf]; omega⟩
                  · have hjl : j = l.length := by omega
                    have hi4 : ¬ (j : Int) < (l.length : Int) := by omega
                    rw [hjl, List.take_length] at HO
                    clear hjl
                    go_wp2_with fail
                    exact ⟨⟨k + 1, by omega, by go_num, Lib.hid (by rw [HR2.out]; exact HO.out), HB⟩, by simp only [intOf]; omega⟩
        · have hkN : k = N := by omega
          have hlt' : ¬ (k : Int) < (N : Int) := by omega
          have HRn := refL_len rs z.eras F T N
          rw [hkN] at HO
          obtain ⟨R, hR⟩ : ∃ R, refL rs z.eras F T N = R := ⟨_, rfl⟩
          have HS1 := Lib.hid (show s = nBuild (fT rs z.eras F) (R.map fun t => (t, fT rs z.eras t)) by have h := HSE.out.1; rw [HN.out, hR] at h; exact h)
          rw [hR] at HO HRn
          clear hR hkN
          obtain ⟨A9, cap9, rfl, g1, g2, hA9⟩ := own_at (xss := R.map inCells) (by simpa using HO.out) (by intro xs hx; obtain ⟨t, _, rfl⟩ := List.mem_map.1 hx; rfl)
          rw [List.length_map] at g1 ⊢
          have HOF := Lib.hid (fun (t : Int) (V' : World) (hb : Below Bn W9 V') => r_of z.name (some ⟨b5, o5, none⟩) zc rs z.eras Bm gz (Bm + 1) L t V' (by rw [HN.out]; exact (HWC.out V' hb).Z) (HWC.out V' hb).E (by rw [HN.out]; exact hq1) HE4.out.2.2 HE4.out.1 HE4.out.2.1 (by rw [HN.out]; exact HGC.out V' hb) HTs.out (fun k hk => HTA.out t k hk))
          have HA9 := Lib.hid hA9
          clear hA9 HO
          have sr := (HWC.out _ HB.out).S.cell
          have sl := (HWC.out _ HB.out).S.lt
          have HC0 := Lib.hid (HOF.out F _ HB.out)
          go_wp2_with fail
          refine HC0.out.mono ?_
          rintro e w7 ⟨rfl, hb7⟩
          replace HA9 := Lib.hid ((HA9.out.below hb7).more hb7.size)
          replace HB := Lib.hid (HB.out.trans (hb7.mono (HSC.out _ HB.out)))
          clear hb7 HC0 sr sl
          have hBu := r_built2 (fT rs z.eras F) A9 cap9 R 51 (.pointer (some ⟨gz, 0, none⟩)) (.pointer (some ⟨Bm + 1, 0, none⟩)) (fT rs z.eras) w7 HA9.out g1 g2 (by omega) (tT_name _ _ _ _) (fun a => tT_name _ _ _ _) call_of (fun W' a _ hW' => HOF.out a W' (HB.out.trans (hW'.mono (HSC.out _ HB.out))))
          rw [← HS1.out] at hBu
          have HBu := Lib.hid hBu
          clear hBu HS1 HOF HA9
          go_wp2_with fail
          refine (show Calls Tryz.prog _ _ _ _ from HBu.out).mono ?_
          rintro e w8 ⟨A3, C3, cT3, cC3, rfl, HT3, ha1, ha2, hb8⟩
          have HBT := Lib.hid (HWC.out _ HB.out).T.lt
          replace HB := Lib.hid (HB.out.trans (hb8.mono (HSC.out _ HB.out)))
          have hV := (Below.refl w8.heap.size w8).alloc (Nat.le_refl _) (.cells #[.slice A3 s.ts.length cT3, .int .i64 0, .slice C3 s.cs.length cC3] 45)
          have HX := Lib.hid (Blk.new w8 #[.slice A3 s.ts.length cT3, .int .i64 0, .slice C3 s.cs.length cC3] 45)
          have HT8 := Lib.hid (HT3.below hV)
          replace HB := Lib.hid (HB.out.trans (hV.mono (HSC.out _ HB.out)))
          have HAb := Lib.hid (And.intro ha1 ha2)
          clear hb8 hV HT3 ha1 ha2 HBu
          go_upto_region 35 with fail
          obtain ⟨V8, hV8⟩ : ∃ V8, w8.alloc (.cells #[.slice A3 s.ts.length cT3, .int .i64 0, .slice C3 s.cs.length cC3] 45) = V8 := ⟨_, rfl⟩
          obtain ⟨g8, hg8⟩ : ∃ g, w8.heap.size = g := ⟨_, rfl⟩
          rw [hV8] at HT8 HB HX ⊢
          rw [hg8] at HX ⊢
          clear hV8 hg8
          have HW8 := Lib.hid (HWC.out _ HB.out)
          have hsE := HSE.out.2
          have xc := HX.out.cell
          have xl := HX.out.lt
          by_cases h1 : 250 < s.ts.length
          · have h1' : (250 : Int) < (s.ts.length : Int) := by omega
            rw [if_pos (Or.inl h1)] at hsE
            have HEE := Lib.hid hsE
            clear hsE
            go_upto_region 36 with fail
            clear xc xl
            have tr := HW8.out.T.frz
            have tl := HW8.out.T.lt
            have tc := HW8.out.T.cell
            go_wp2_with fail
            have HF := Lib.hid (blk3 HW8.out.T (x := .slice none 0 0) (y := .int .i64 0) (z := .slice none 0 0))
            have HBF := Lib.hid (show Below w.heap.size w (((V8.setCell ⟨B + 1 + 1, 0, none⟩ (.slice none 0 0)).setCell ⟨B + 1 + 1, 1, none⟩ (.int .i64 0)).setCell ⟨B + 1 + 1, 2, none⟩ (.slice none 0 0)) from below3 HW8.out.L (by have := HBe.out; omega))
            obtain ⟨U, hU⟩ : ∃ U, (((V8.setCell ⟨B + 1 + 1, 0, none⟩ (.slice none 0 0)).setCell ⟨B + 1 + 1, 1, none⟩ (.int .i64 0)).setCell ⟨B + 1 + 1, 2, none⟩ (.slice none 0 0)) = U := ⟨_, rfl⟩
            rw [hU] at HF HBF ⊢
            have hf := HF.out.cell
            exact bodyPost_ret (v := .tuple #[.agg #[.slice none 0 0, .int .i64 0, .slice none 0 0], .int .i64 2]) (by simp [results, Tryz.results16, go_sem, hf]) rfl (by have he := HEE.out; subst he; exact tm_bad (by decide) HBF.out)
          · have h1' : ¬ (250 : Int) < (s.ts.length : Int) := by omega
            by_cases h2 : 1000 < s.cs.length
            · have h2' : (1000 : Int) < (s.cs.length : Int) := by omega
              rw [if_pos (Or.inr h2)] at hsE
              have HEE := Lib.hid hsE
              clear hsE
              go_upto_region 36 with fail
              clear xc xl
              have tr := HW8.out.T.frz
              have tl := HW8.out.T.lt
              have tc := HW8.out.T.cell
              go_wp2_with fail
              have HF := Lib.hid (blk3 HW8.out.T (x := .slice none 0 0) (y := .int .i64 0) (z := .slice none 0 0))
              have HBF := Lib.hid (show Below w.heap.size w (((V8.setCell ⟨B + 1 + 1, 0, none⟩ (.slice none 0 0)).setCell ⟨B + 1 + 1, 1, none⟩ (.int .i64 0)).setCell ⟨B + 1 + 1, 2, none⟩ (.slice none 0 0)) from below3 HW8.out.L (by have := HBe.out; omega))
              obtain ⟨U, hU⟩ : ∃ U, (((V8.setCell ⟨B + 1 + 1, 0, none⟩ (.slice none 0 0)).setCell ⟨B + 1 + 1, 1, none⟩ (.int .i64 0)).setCell ⟨B + 1 + 1, 2, none⟩ (.slice none 0 0)) = U := ⟨_, rfl⟩
              rw [hU] at HF HBF ⊢
              have hf := HF.out.cell
              exact bodyPost_ret (v := .tuple #[.agg #[.slice none 0 0, .int .i64 0, .slice none 0 0], .int .i64 2]) (by simp [results, Tryz.results16, go_sem, hf]) rfl (by have he := HEE.out; subst he; exact tm_bad (by decide) HBF.out)
            · have h2' : ¬ (1000 : Int) < (s.cs.length : Int) := by omega
              rw [if_neg (by omega)] at hsE
              have HEE := Lib.hid hsE
              clear hsE
              go_upto_region 37 with fail
              have tr := HW8.out.T.frz
              have tl := HW8.out.T.lt
              have tc := HW8.out.T.cell
              go_wp2_with fail
              have hT1 := TabAt.far (TabAt.far (TabAt.far HT8.out HAb.out.1 HAb.out.2 HBT.out (i := 0) (.slice A3 s.ts.length cT3)) HAb.out.1 HAb.out.2 HBT.out (i := 1) (.int .i64 0)) HAb.out.1 HAb.out.2 HBT.out (i := 2) (.slice C3 s.cs.length cC3)
              have HT10 := Lib.hid hT1
              clear hT1
              have HF := Lib.hid (blk3 HW8.out.T (x := .slice A3 s.ts.length cT3) (y := .int .i64 0) (z := .slice C3 s.cs.length cC3))
              have HBF := Lib.hid (show Below w.heap.size w (((V8.setCell ⟨B + 1 + 1, 0, none⟩ (.slice A3 s.ts.length cT3)).setCell ⟨B + 1 + 1, 1, none⟩ (.int .i64 0)).setCell ⟨B + 1 + 1, 2, none⟩ (.slice C3 s.cs.length cC3)) from below3 HW8.out.L (by have := HBe.out; omega))
              obtain ⟨U, hU⟩ : ∃ U, (((V8.setCell ⟨B + 1 + 1, 0, none⟩ (.slice A3 s.ts.length cT3)).setCell ⟨B + 1 + 1, 1, none⟩ (.int .i64 0)).setCell ⟨B + 1 + 1, 2, none⟩ (.slice C3 s.cs.length cC3)) = U := ⟨_, rfl⟩
              rw [hU] at HF HBF HT10 ⊢
              have hf := HF.out.cell
              exact bodyPost_ret (v := .tuple #[.agg #[.slice A3 s.ts.length cT3, .int .i64 0, .slice C3 s.cs.length cC3], .int .i64 0]) (by simp [results, Tryz.results16, go_sem, hf]) rfl (by have he := HEE.out; subst he; exact ⟨A3, C3, cT3, cC3, rfl, HT10.out, HBF.out⟩)
end Go.Proofs.YtanaoohgpdcfjaaGreatDoor
