/- Walk of back.Book. -/
import Derived.Test.YtgnodiegippkeaaDoorBbA
import Derived.Test.YtgnodiegippkeaaDoorBbZ
import Derived.Test.YtgnodiegippkeaaDoorNmE
import Derived.Test.YtgnodiegippkeaaDoorStA
import Derived.Test.YtgnodiegippkeaaDoorRuleA
import Derived.Deep.AppendLies
import Derived.Deep.Cut
namespace Go.Proofs.YtgnodiegippkeaaDoor
open Go.RowKit
set_option linter.unusedVariables false
attribute [local go_sem ↓] Go.wp_at_zero Go.wp_at_succ
abbrev zz3 : Array Value := #[.slice none 0 0, .slice none 0 0, .slice none 0 0]
theorem info_Era : (Tryd.prog.info? 62).map (fun i => (i.zero, i.size, i.bytes)) = some (some (.agg #[.int .i64 0, .string ⟨#[]⟩, .int .i64 0, .string ⟨#[]⟩, .int .i64 0]), 5, 56) := by kernel_rfl
set_option maxRecDepth 100000 in
set_option maxHeartbeats 2000000 in
theorem b_Book_3 (A C : Option Addr) (capT capC : Nat) (ts : List Ty) (first : Int) (cs : List Ch) (nm : ByteArray) (hn : nm.size ≤ maxLen) (w : World) (H : TabAt w A C capT capC ts cs) (h0 : tabE ts first cs = 0) (h2 : isNameB nm.data.toList = false) :
    Calls Tryd.prog 9 #[.agg #[.slice A ts.length capT, .int .i64 first, .slice C cs.length capC], .string nm] w (BbBad 3 w) := by
  obtain ⟨q1, q2, q4, q5, hb0⟩ := boxes2 w #[.slice A ts.length capT, .int .i64 first, .slice C cs.length capC] zz3 32 37
  have X2 := Lib.hid (show Bx (w.heap.size + 1) _ _ from ⟨q2, q4, by rw [q5]; omega⟩)
  have HC := Lib.hid (t_Check A C capT capC ts first cs _ (H.below hb0))
  have HB := Lib.hid hb0
  have H0 := Lib.hid h0
  clear q1 q2 q4 q5 hb0 h0
  go_enter Tryd.func9, Tryd.ntmps9
  go_wp2_with fail
  refine (show Calls Tryd.prog _ _ _ _ from HC.out).mono ?_
  rintro e w1 ⟨rfl, hb⟩
  rw [H0.out]
  have x2 := X2.out.step hb
  have hr := x2.1
  have hf := x2.2.1
  have hz := x2.2.2
  have hB := HB.out.trans (hb.mono HB.out.size)
  clear hb X2 HC HB
  go_wp2_with (first | (go_at_call 21; refine (u_IsName nm hn _).mono ?_; rintro e w' ⟨rfl, rfl⟩; rw [h2]))
  obtain ⟨q0, q1, q2⟩ := cells3 (W := w1) (g := w.heap.size + 1) (x := .slice none 0 0) (y := .slice none 0 0) (z := .slice none 0 0) (hr 0) (hr 1) (hr 2)
  exact bodyPost_ret (v := .tuple #[.agg zz3, .int .i64 3]) (by simp [results, Tryd.results9, go_sem, q0, q1, q2]) rfl ⟨rfl, below3 hB (by omega)⟩
set_option maxRecDepth 100000 in
set_option maxHeartbeats 4000000 in
theorem b_Book_main (A C : Option Addr) (capT capC : Nat) (ts : List Ty) (first : Int) (cs : List Ch) (nm : ByteArray) (hn : nm.size ≤ maxLen) (w : World) (H : TabAt w A C capT capC ts cs) (h0 : tabE ts first cs = 0) (h2 : isNameB nm.data.toList = true) (HI : ∀ y : Nat, y < 10000 → ItoaIn w y) (s : NSt) (hs : normSt ts first cs = s) (hok : NsOk s) (htm : ∀ c ∈ s.cs, -1099511627776 ≤ c.1 ∧ c.1 ≤ 1099511627776) (hty : ∀ t ∈ s.ts, -75600 ≤ t.1 ∧ t.1 ≤ 75600) (hl : s.cs.length ≤ 1000) (hl2 : s.ts.length ≤ 1001) :
    Calls Tryd.prog 9 #[.agg #[.slice A ts.length capT, .int .i64 first, .slice C cs.length capC], .string nm] w (fun e w' => (700 ≤ s.cs.length ∧ BbBad 2 w e w') ∨ (s.cs.length < 700 ∧ BbPost s nm w e w')) := by
  obtain ⟨q1, q2, q4, q5, hb0⟩ := boxes2 w #[.slice A ts.length capT, .int .i64 first, .slice C cs.length capC] zz3 32 37
  have X1 := Lib.hid (show Blk ((w.alloc (.cells #[.slice A ts.length capT, .int .i64 first, .slice C cs.length capC] 32)).alloc (.cells zz3 37)) w.heap.size 32 #[.slice A ts.length capT, .int .i64 first, .slice C cs.length capC] from Blk.alloc (Blk.new' _ _ _ rfl) _)
  have X2 := Lib.hid (show Blk ((w.alloc (.cells #[.slice A ts.length capT, .int .i64 first, .slice C cs.length capC] 32)).alloc (.cells zz3 37)) (w.heap.size + 1) 37 zz3 from Blk.new' _ _ _ (by simp))
  have HC := Lib.hid (t_Check A C capT capC ts first cs _ (H.below hb0))
  have HB := Lib.hid hb0
  have H0 := Lib.hid h0
  have HK := Lib.hid (tabOk h0)
  have HS := Lib.hid hs
  obtain ⟨i0, hi0, hz0, hz1, hz2⟩ := info_parts info_Era
  clear q1 q2 q4 q5 hb0 h0 hs
  go_enter Tryd.func9, Tryd.ntmps9
  go_wp2_with fail
  refine (show Calls Tryd.prog _ _ _ _ from HC.out).mono ?_
  rintro e w1 ⟨rfl, hb⟩
  rw [H0.out]
  have X1' := Lib.hid (X1.out.step hb)
  have X2' := Lib.hid (X2.out.step hb)
  have hB := HB.out.trans (hb.mono HB.out.size)
  have x1 := X1'.out.cell
  clear hb X1 X2 HC HB
  go_wp2_with (first | (go_at_call 21; refine (u_IsName nm hn _).mono ?_; rintro e w' ⟨rfl, rfl⟩; rw [h2]))
  refine (n_Of A C capT capC ts first cs _ (H.below hB) HK.out).mono ?_
  rintro e w2 ⟨A2, C2, cT2, cC2, rfl, HT, ha1, ha2, hb⟩
  rw [HS.out] at HT ⊢
  have Y1 := X1'.out.step hb
  have Y2 := X2'.out.step hb
  have hB2 := hB.trans (hb.mono hB.size)
  have hlow : w.heap.size < w1.heap.size := X1'.out.lt
  have hlow1 : w.heap.size + 1 < w1.heap.size := X2'.out.lt
  have y1 := Y1.cell
  have y2 := Y1.frz
  have HT3 := Lib.hid (((HT.far (i := 0) ha1 ha2 hlow (.slice A2 s.ts.length cT2)).far (i := 1) ha1 ha2 hlow (.int .i64 0)).far (i := 2) ha1 ha2 hlow (.slice C2 s.cs.length cC2))
  have Z1 := Lib.hid (show Blk _ w.heap.size 32 #[.slice A2 s.ts.length cT2, .int .i64 0, .slice C2 s.cs.length cC2] from ((Y1.set 0 (.slice A2 s.ts.length cT2)).set 1 (.int .i64 0)).set 2 (.slice C2 s.cs.length cC2))
  have Z2 := Lib.hid (((Y2.far (a := ⟨w.heap.size, 0, none⟩) (by simp) (.slice A2 s.ts.length cT2)).far (a := ⟨w.heap.size, 1, none⟩) (by simp) (.int .i64 0)).far (a := ⟨w.heap.size, 2, none⟩) (by simp) (.slice C2 s.cs.length cC2))
  have HB3 := Lib.hid (below3 (b3 := w.heap.size) (x := .slice A2 s.ts.length cT2) (y := .int .i64 0) (z := .slice C2 s.cs.length cC2) hB2 (Nat.le_refl _))
  have m1 := HT.mT
  have m2 := HT.mC
  have m3 := HT.cT
  have m4 := HT.cC
  unfold maxLen at m1 m2
  clear x1 hb hB X1' X2' Y1 Y2 HT ha1 ha2 hB2
  go_upto_region 7 with (fail)
  clear y1 y2
  revert HT3 Z1 Z2 HB3
  generalize ((w2.setCell ⟨w.heap.size, 0, none⟩ (.slice A2 s.ts.length cT2)).setCell ⟨w.heap.size, 1, none⟩ (.int .i64 0)).setCell ⟨w.heap.size, 2, none⟩ (.slice C2 s.cs.length cC2) = W3
  intro HT3 Z1 Z2 HB3
  have z1 := Z1.out.cell
  have z2 := Z2.out.cell
  have z3 := Z2.out.frz
  by_cases h7 : 700 ≤ s.cs.length
  · go_wp2_with fail
    obtain ⟨q0, q1, q2⟩ := cells3 (W := W3) (g := w.heap.size + 1) (x := .slice none 0 0) (y := .slice none 0 0) (z := .slice none 0 0) (z2 0) (z2 1) (z2 2)
    exact bodyPost_ret (v := .tuple #[.agg zz3, .int .i64 2]) (by simp [results, Tryd.results9, go_sem, q0, q1, q2]) rfl (Or.inl ⟨h7, rfl, below3 HB3.out (by omega)⟩)
  · go_wp2_with fail
    clear z2 z3
    go_loopw [36] (fun i wr => ∃ k : Nat, k ≤ s.cs.length ∧ i = .int .i64 k ∧ (∀ j (hj : j < s.cs.length), j < k → dateOk (s.cs[j].1 / 86400) = true) ∧ Below W3.heap.size W3 wr) (fun i _ => s.cs.length - (intOf i).toNat)
    case atStart => exact ⟨0, Nat.zero_le _, rfl, fun j _ h => absurd h (by omega), Below.refl _ _⟩
    case round =>
      clear z1
      obtain ⟨k, hk, rfl, hN, hbr⟩ := hrel
      have HN := Lib.hid hN
      have HR := Lib.hid hbr
      have hWr := hbr.size
      have z1 := (Z1.out.step hbr).cell
      clear hN
      by_cases hlt : k < s.cs.length
      · obtain ⟨b, o, rfl, hb, c0, c1⟩ := ch_at (HT3.out.C.below hbr) hlt
        have hb' := Nat.lt_of_lt_of_le hb hbr.size
        obtain ⟨t1, t2⟩ := htm _ (List.getElem_mem hlt)
        have HD := Lib.hid (fun (h : dateOk (s.cs[k].1 / 86400) = false) => bbOk_time hlt h)
        have HG := Lib.hid (fun (h : dateOk (s.cs[k].1 / 86400) = true) j (hj : j < s.cs.length) (hjk : j < k + 1) => (if h2 : j < k then HN.out j hj h2 else (by obtain rfl : j = k := (by omega); exact h) : dateOk (s.cs[j].1 / 86400) = true))
        obtain ⟨c, hc⟩ : ∃ c, s.cs[k] = c := ⟨_, rfl⟩
        rw [hc] at c0 c1 t1 t2 HD HG
        clear hc HN
        have HR1 := Lib.hid (hbr.alloc hWr (.cells #[.int .i64 c.1, .int .i64 c.2] 56))
        have hz := (Z2.out.step HR1.out)
        have HZ := Lib.hid hz
        have HBr := Lib.hid (HB3.out.trans (HR1.out.mono HB3.out.size))
        have HK2 := Lib.hid (fun W (hW : Below (wr.alloc (.cells #[.int .i64 c.1, .int .i64 c.2] 56)).heap.size (wr.alloc (.cells #[.int .i64 c.1, .int .i64 c.2] 56)) W) => k_Stamp c.1 (by omega) (by omega) W (fun y hy => (HI y hy).on (HBr.out.trans (hW.mono HBr.out.size))))
        clear hbr hz
        go_wp2_with fail
        refine (show Calls Tryd.prog _ _ _ _ from HK2.out _ (Below.refl _ _)).mono ?_
        rintro e w5 ⟨rfl, hb5⟩
        cases hd : dateOk (c.1 / 86400) with
        | true =>
          rw [(st_ok hd).2]
          have HG2 := Lib.hid (HG.out hd)
          clear hd
          go_wp2_with fail
          exact ⟨⟨k + 1, by omega, by go_num, HG2.out, HR1.out.trans (hb5.mono HR1.out.size)⟩, by simp [intOf]; omega⟩
        | false =>
          rw [(st_no hd).2]
          have HD2 := Lib.hid (HD.out hd)
          have z2 := (HZ.out.step hb5).cell
          have z3 := (HZ.out.step hb5).frz
          have hBw := HBr.out.trans (hb5.mono HBr.out.size)
          clear hd hb5 c0 c1 z1
          go_wp2_with fail
          obtain ⟨q0, q1, q2⟩ := cells3 (W := w5) (g := w.heap.size + 1) (x := .slice none 0 0) (y := .slice none 0 0) (z := .slice none 0 0) (z2 0) (z2 1) (z2 2)
          exact bodyPost_ret (v := .tuple #[.agg zz3, .int .i64 1]) (by simp [results, Tryd.results9, go_sem, q0, q1, q2]) rfl (Or.inr ⟨by omega, Or.inr ⟨HD2.out, rfl, below3 hBw (by omega)⟩⟩)
      · obtain rfl : k = s.cs.length := by omega
        have hBr := HB3.out.trans (hbr.mono HB3.out.size)
        clear hlt hk
        have HN2 := Lib.hid (fun j (hj : j < s.cs.length) => HN.out j hj hj)
        have HBr := Lib.hid hBr
        have hwz := (Z1.out.step hbr).lt
        clear HN hBr
        go_wp2_with fail
        clear z1
        obtain ⟨wo, rfl⟩ : ∃ wo : World, wo = wr := ⟨_, rfl⟩
        have HX := Lib.hid (Blk.new wo #[.string nm, .slice none 0 0] 60)
        go_loopw [12, 59] (fun kk i wi => ∃ j : Nat, j ≤ s.cs.length + 1 ∧ i = .int .i64 j ∧ kk = .int .i64 (bbIx s (min j s.cs.length) : Nat) ∧ (∀ q, q < j → eraOk (bbTy s q) = true) ∧ (∃ V, Blk wi wo.heap.size 60 #[.string nm, V] ∧ wi.ownsRow wo.heap.size 62 5 V (bbEras s j).length ((bbEras s j).map erC).flatten) ∧ Below wo.heap.size wo wi) (fun _ i _ => s.cs.length + 1 - (intOf i).toNat)
        case atStart => exact ⟨0, by omega, rfl, by simp [bbIx], fun q h => absurd h (by omega), ⟨_, HX.out, World.ownsRow_nil _ _ _ _⟩, (by repeat (first | exact Below.refl _ _ | assumption | apply Below.drew | apply below_drewN | (refine Below.alloc ?_ (by simp; try omega) _) | (refine Below.setCell ?_ (by simp; try omega) _)))⟩
        case round =>
          clear HX
          obtain ⟨j, hj, rfl, rfl, hE, ⟨V, hV, hO⟩, hbi⟩ := hrel
          have hwi := hbi.size
          have hb3 := hbr.trans (hbi.mono hWr)
          have hZ := Z1.out.step hb3
          have HZ2 := Lib.hid (Z2.out.step hb3)
          have z1 := hZ.cell
          have hwz2 := hZ.lt
          have HE := Lib.hid hE
          have HV := Lib.hid hV
          have HO := Lib.hid hO
          have HBi := Lib.hid hbi
          have HBw := Lib.hid (HBr.out.trans (hbi.mono HBr.out.size))
          by_cases hlt : j ≤ s.cs.length
          · rw [Nat.min_eq_left hlt]
            have hix := bbIx_lt hok hlt
            obtain ⟨bt, ot, rfl, hbt, d0, d1, d2⟩ := ty_at (HT3.out.T.below hb3) hix
            have hbt' := Nat.lt_of_lt_of_le hbt hb3.size
            have HY := Lib.hid (show bbTy s j = s.ts[bbIx s j] from bbTy_get hok hlt)
            have hyb := hty _ (List.getElem_mem hix)
            have HS1 := Lib.hid (bbEras_succ s j)
            have HE1 := Lib.hid (fun (h : eraOk (bbTy s j) = true) q (hq : q < j + 1) => (if h2 : q < j then HE.out q h2 else (by obtain rfl : q = j := (by omega); exact h) : eraOk (bbTy s q) = true))
            have HE2 := Lib.hid (fun (h : eraOk (bbTy s j) = false) => bbOk_era hlt h)
            have HL := Lib.hid (bbEras_len s j)
            obtain ⟨y, hy⟩ : ∃ y, s.ts[bbIx s j] = y := ⟨_, rfl⟩
            rw [hy] at d0 d1 d2 HY hyb
            rw [HY.out] at HE1 HE2
            obtain ⟨ix, hixe⟩ : ∃ ix, bbIx s j = ix := ⟨_, rfl⟩
            have HIX := Lib.hid hixe
            rw [hixe] at d0 d1 d2 hix ⊢
            have hi1 : (0 : Int) ≤ (ix : Int) := by omega
            have hi2 : (ix : Int) < (s.ts.length : Int) := by omega
            obtain ⟨el, hel⟩ : ∃ el, bbEras s j = el := ⟨_, rfl⟩
            rw [hel] at HO HS1 HL
            clear hE hV hO hbi hZ hy hixe hel HE
            go_wp2_with fail
            refine (b_era y hyb _).mono ?_
            rintro e w5 ⟨rfl, hb5⟩
            have HV5 := Lib.hid (HV.out.step hb5)
            have HO5 := Lib.hid (own_step HO.out hb5)
            have HBi5 := Lib.hid (HBi.out.trans (hb5.mono HBi.out.size))
            have HBw5 := Lib.hid (HBw.out.trans (hb5.mono HBw.out.size))
            have hb35 := hb3.trans (hb5.mono hb3.size)
            have hZ5 := Z1.out.step hb35
            have z15 := hZ5.cell
            have z16 := hZ5.lt
            have HZ25 := Lib.hid (HZ2.out.step hb5)
            clear HV HO HBi HBw hb3 z1 hb5 HZ2 d0 d1 d2 hZ5
            cases hok2 : eraOk y with
            | false =>
              have HD := Lib.hid (HE2.out hok2)
              have z2 := HZ25.out.cell
              have z3 := HZ25.out.frz
              have z4 := HZ25.out.lt
              clear hok2
              go_wp2_with fail
              obtain ⟨p0, p1, p2⟩ := cells3 (W := w5) (g := w.heap.size + 1) (x := .slice none 0 0) (y := .slice none 0 0) (z := .slice none 0 0) (z2 0) (z2 1) (z2 2)
              have q0 := (cell_old _ (.cells #[.int .i64 (eraTy y).off, .string ⟨#[]⟩, .int .i64 (eraTy y).save, .string y.2.2, .int .i64 0] 62) _ (by simp; omega)).trans p0
              have q1 := (cell_old _ (.cells #[.int .i64 (eraTy y).off, .string ⟨#[]⟩, .int .i64 (eraTy y).save, .string y.2.2, .int .i64 0] 62) _ (by simp; omega)).trans p1
              have q2 := (cell_old _ (.cells #[.int .i64 (eraTy y).off, .string ⟨#[]⟩, .int .i64 (eraTy y).save, .string y.2.2, .int .i64 0] 62) _ (by simp; omega)).trans p2
              exact bodyPost_ret (v := .tuple #[.agg zz3, .int .i64 1]) (by simp [results, Tryd.results9, go_sem, q0, q1, q2]) rfl (Or.inr ⟨by omega, Or.inr ⟨HD.out, rfl, (below3 HBw5.out (by omega)).alloc (by have := HBw5.out.size; simp; omega) _⟩⟩)
            | true =>
              have HG := Lib.hid (HE1.out hok2)
              clear hok2
              go_upto_region 24 with (fail)
              have HE6 := Blk.new w5 #[.int .i64 (eraTy y).off, .string ⟨#[]⟩, .int .i64 (eraTy y).save, .string y.2.2, .int .i64 0] 62
              have HV6 := HV5.out.alloc (.cells #[.int .i64 (eraTy y).off, .string ⟨#[]⟩, .int .i64 (eraTy y).save, .string y.2.2, .int .i64 0] 62)
              have HO6 := HO5.out.alloc (.cells #[.int .i64 (eraTy y).off, .string ⟨#[]⟩, .int .i64 (eraTy y).save, .string y.2.2, .int .i64 0] 62)
              have HBi6 := HBi5.out.alloc HBi5.out.size (.cells #[.int .i64 (eraTy y).off, .string ⟨#[]⟩, .int .i64 (eraTy y).save, .string y.2.2, .int .i64 0] 62)
              have hb36 := hb35.alloc hb35.size (.cells #[.int .i64 (eraTy y).off, .string ⟨#[]⟩, .int .i64 (eraTy y).save, .string y.2.2, .int .i64 0] 62)
              have hez : wo.heap.size ≤ w5.heap.size := HBi5.out.size
              have hvz : wo.heap.size < w5.heap.size := HV5.out.lt
              have hVN : V.ownBlock ≠ some w5.heap.size := fun e => absurd (HO5.out.lt _ e).2 (by omega)
              clear HV5 HO5 HBi5 HBw5 hb35 z15 z16 HZ25
              revert HE6 HV6 HO6 HBi6 hb36
              generalize w5.alloc (.cells #[.int .i64 (eraTy y).off, .string ⟨#[]⟩, .int .i64 (eraTy y).save, .string y.2.2, .int .i64 0] 62) = w6
              intro HE6 HV6 HO6 HBi6 hb36
              have x1 := (Z1.out.step hb36).cell
              have x2 := (Z1.out.step hb36).lt
              by_cases hjn : j < s.cs.length
              · obtain ⟨b, o, rfl, hb, c0, c1⟩ := ch_at (HT3.out.C.below hb36) hjn
                have hb' := Nat.lt_of_lt_of_le hb hb36.size
                have HKS := Lib.hid (show (bbIx s (min (j + 1) s.cs.length) : Int) = s.cs[j].2 by rw [Nat.min_eq_left (show j + 1 ≤ s.cs.length by omega)]; exact bbIx_succ hjn hok)
                have HER := Lib.hid (show bbEra s j = ⟨(eraTy y).off, ⟨#[]⟩, (eraTy y).save, y.2.2, s.cs[j].1⟩ by rw [bbEra, HY.out, (eraTy_f y).1, (eraTy_f y).2, if_pos hjn]; simp [List.getD, hjn])
                obtain ⟨a, ha⟩ : ∃ a, s.cs[j].1 = a := ⟨_, rfl⟩
                obtain ⟨tyi, hty'⟩ : ∃ t, s.cs[j].2 = t := ⟨_, rfl⟩
                rw [ha] at c0 HER
                rw [hty'] at c1 HKS
                clear ha hty'
                have hj1 : (0 : Int) ≤ (j : Int) := by omega
                have hj2 : (j : Int) < (s.cs.length : Int) := by omega
                have e1 := HE6.cell
                have e2 := HE6.frz
                go_wp2_with fail
                go_region
                clear x1 x2 e1 e2 c0 c1
                have hE7 := ((HE6.set 4 (.int .i64 a))).drew
                have hV7 := (HV6.far (a := ⟨w5.heap.size, 4, none⟩) (by simp; omega) (.int .i64 a)).drew
                have hVn : V.ownBlock ≠ some w5.heap.size := hVN
                have hO7 := (ownsRow_setCell_other HO6 (a := ⟨w5.heap.size, 4, none⟩) hVn (.int .i64 a)).drew
                have hBi7 := (HBi6.setCell (p := ⟨w5.heap.size, 4, none⟩) hez (.int .i64 a)).drew
                clear HE6 HV6 HO6 HBi6 hb36
                revert hE7 hV7 hO7 hBi7
                generalize (w6.setCell ⟨w5.heap.size, 4, none⟩ (.int .i64 a)).drew = w7
                intro hE7 hV7 hO7 hBi7
                have HE7 := Lib.hid hE7
                have HV7 := Lib.hid hV7
                have HO7 := Lib.hid hO7
                have HBi7 := Lib.hid hBi7
                have e1 := hE7.cell
                have v1 := hV7.cell
                have v2 := hV7.lt
                have hez7 := hBi7.size
                clear hE7 hV7 hO7 hBi7
                go_wp2_with (at_builtin; refine wpList_append_lies _ rfl _ _ _ rfl wo.heap.size 62 i0 _ 5 56 Tryd.underlying58 hi0 hz0 hz1 hz2 rfl (by omega) V el.length _ rfl (HO7.out.alloc _) ⟨w7.heap.size, 0, none⟩ 1 1 (erC ⟨(eraTy y).off, ⟨#[]⟩, (eraTy y).save, y.2.2, a⟩) rfl rfl (World.news_of_block (cs := (erC ⟨(eraTy y).off, ⟨#[]⟩, (eraTy y).save, y.2.2, a⟩).toArray) (t := 62) (fr := (0, 0)) (heap_alloc_new w7 _)) (by simp [Value.oneCell', erC]) (by omega) (by have := HL.out; unfold maxLen; omega) (by have := HL.out; omega) (by simp; omega) (w7.heap.size + 1) (by simp) ?_; intro gg cap2 w8 hown1 hgrow hat hlt8; have hm8 := Blk.grown' hgrow (HV7.out.alloc _) (HV7.out.own_ne HO7.out (by decide)); have y0 := hm8.cell; have y1 := hm8.frz)
                have hm9 := Lib.hid (hm8.set 1 (.slice (some ⟨gg, 0, none⟩) (el.length + 1) cap2))
                have ho9 := Lib.hid (ownsRow_setCell_other hown1 (a := ⟨wo.heap.size, 1, none⟩) (hm8.own_ne hown1 (by decide)) (.slice (some ⟨gg, 0, none⟩) (el.length + 1) cap2))
                have hb9 := ((HBi7.out.alloc hez7 _).trans (below_app (by simp; omega) (HO7.out.alloc _) hgrow)).setCell (p := ⟨wo.heap.size, 1, none⟩) (Nat.le_refl _) (.slice (some ⟨gg, 0, none⟩) (el.length + 1) cap2)
                exact ⟨⟨j + 1, by omega, by go_num, by rw [HKS.out], HG.out, ⟨_, hm9.out, by rw [HS1.out, HER.out]; simpa using ho9.out⟩, hb9⟩, by simp [intOf]; omega⟩
              · have hje : j = s.cs.length := by omega
                have HER := Lib.hid (show bbEra s j = ⟨(eraTy y).off, ⟨#[]⟩, (eraTy y).save, y.2.2, 0⟩ by rw [bbEra, HY.out, (eraTy_f y).1, (eraTy_f y).2, if_neg hjn])
                have HKS := Lib.hid (show bbIx s (min (j + 1) s.cs.length) = ix by rw [Nat.min_eq_right (show s.cs.length ≤ j + 1 by omega), ← hje]; exact HIX.out)
                have hjn2 : ¬ ((j : Int) < (s.cs.length : Int)) := by omega
                clear hje
                go_upto_region 26 with (fail)
                have hE7 := HE6
                have hV7 := HV6
                have hO7 := HO6
                have hBi7 := HBi6
                clear HE6 HV6 HO6 HBi6 hb36 x1 x2
                revert hE7 hV7 hO7 hBi7
                generalize w6 = w7
                intro hE7 hV7 hO7 hBi7
                have HE7 := Lib.hid hE7
                have HV7 := Lib.hid hV7
                have HO7 := Lib.hid hO7
                have HBi7 := Lib.hid hBi7
                have e1 := hE7.cell
                have v1 := hV7.cell
                have v2 := hV7.lt
                have hez7 := hBi7.size
                clear hE7 hV7 hO7 hBi7
                go_wp2_with (at_builtin; refine wpList_append_lies _ rfl _ _ _ rfl wo.heap.size 62 i0 _ 5 56 Tryd.underlying58 hi0 hz0 hz1 hz2 rfl (by omega) V el.length _ rfl (HO7.out.alloc _) ⟨w7.heap.size, 0, none⟩ 1 1 (erC ⟨(eraTy y).off, ⟨#[]⟩, (eraTy y).save, y.2.2, 0⟩) rfl rfl (World.news_of_block (cs := (erC ⟨(eraTy y).off, ⟨#[]⟩, (eraTy y).save, y.2.2, 0⟩).toArray) (t := 62) (fr := (0, 0)) (heap_alloc_new w7 _)) (by simp [Value.oneCell', erC]) (by omega) (by have := HL.out; unfold maxLen; omega) (by have := HL.out; omega) (by simp; omega) (w7.heap.size + 1) (by simp) ?_; intro gg cap2 w8 hown1 hgrow hat hlt8; have hm8 := Blk.grown' hgrow (HV7.out.alloc _) (HV7.out.own_ne HO7.out (by decide)); have y0 := hm8.cell; have y1 := hm8.frz)
                have hm9 := Lib.hid (hm8.set 1 (.slice (some ⟨gg, 0, none⟩) (el.length + 1) cap2))
                have ho9 := Lib.hid (ownsRow_setCell_other hown1 (a := ⟨wo.heap.size, 1, none⟩) (hm8.own_ne hown1 (by decide)) (.slice (some ⟨gg, 0, none⟩) (el.length + 1) cap2))
                have hb9 := ((HBi7.out.alloc hez7 _).trans (below_app (by simp; omega) (HO7.out.alloc _) hgrow)).setCell (p := ⟨wo.heap.size, 1, none⟩) (Nat.le_refl _) (.slice (some ⟨gg, 0, none⟩) (el.length + 1) cap2)
                exact ⟨⟨j + 1, by omega, by go_num, by rw [HKS.out], HG.out, ⟨_, hm9.out, by rw [HS1.out, HER.out]; simpa using ho9.out⟩, hb9⟩, by simp [intOf]; omega⟩
          · obtain rfl : j = s.cs.length + 1 := by omega
            have HOK := Lib.hid (bbOk_all (fun q hq => HN2.out q hq) (fun q hq => HE.out q (by omega)))
            obtain ⟨A3, cap3, rfl, g1, g2, hA3⟩ := own_at (xss := (bbEras s (s.cs.length + 1)).map erC) (by simpa using hO) (by intro xs hx; obtain ⟨t, _, rfl⟩ := List.mem_map.1 hx; rfl)
            rw [List.length_map] at g1
            have hab : Above wo.heap.size A3 := fun a e => (hO.lt a.block (by rw [e]; rfl)).1
            have hlz : w.heap.size + 1 < wo.heap.size := (Z2.out.step hbr).lt
            have HF := Lib.hid (((hA3.far (i := 0) hab hlz (.slice none 0 0)).far (i := 1) hab hlz (.slice (some ⟨wr.heap.size, 0, none⟩) 1 1)).far (i := 2) hab hlz (.slice none 0 0))
            have HL := Lib.hid (bbEras_len s (s.cs.length + 1))
            have v1 := hV.cell
            have v2 := hV.lt
            have z2 := HZ2.out.cell
            have z3 := HZ2.out.frz
            have z4 := HZ2.out.lt
            have G1 := Lib.hid g1
            have G2 := Lib.hid g2
            obtain ⟨el, hel⟩ : ∃ el, bbEras s (s.cs.length + 1) = el := ⟨_, rfl⟩
            rw [List.length_map] at *
            rw [hel] at v1 HF HL G1
            have HEL := Lib.hid hel
            clear hO hV hA3 hE HE HV HO hbi z1 hab g1 g2 hel
            go_wp2_with fail
            obtain ⟨p0, p1, p2⟩ := cells3 (W := wr) (g := w.heap.size + 1) (x := .slice none 0 0) (y := .slice (some ⟨wr.heap.size, 0, none⟩) 1 1) (z := .slice none 0 0) (z2 0) (z2 1) (z2 2)
            have hB9 := (below3 (b3 := w.heap.size + 1) (x := .slice none 0 0) (y := .slice (some ⟨wr.heap.size, 0, none⟩) 1 1) (z := .slice none 0 0) HBw.out (by omega))
            have hsz : (((wr.setCell ⟨w.heap.size + 1, 0, none⟩ (.slice none 0 0)).setCell ⟨w.heap.size + 1, 1, none⟩ (.slice (some ⟨wr.heap.size, 0, none⟩) 1 1)).setCell ⟨w.heap.size + 1, 2, none⟩ (.slice none 0 0)).heap.size = wr.heap.size := by simp
            revert p0 p1 p2 hB9 HF hsz
            generalize ((wr.setCell ⟨w.heap.size + 1, 0, none⟩ (.slice none 0 0)).setCell ⟨w.heap.size + 1, 1, none⟩ (.slice (some ⟨wr.heap.size, 0, none⟩) 1 1)).setCell ⟨w.heap.size + 1, 2, none⟩ (.slice none 0 0) = W9
            intro HF p0 p1 p2 hB9 hsz
            have hlz9 : w.heap.size + 1 < W9.heap.size := by rw [hsz]; exact z4
            have q0 := (cell_old W9 (.cells #[.string nm, .slice A3 el.length cap3] 60) _ hlz9).trans p0
            have q1 := (cell_old W9 (.cells #[.string nm, .slice A3 el.length cap3] 60) _ hlz9).trans p1
            have q2 := (cell_old W9 (.cells #[.string nm, .slice A3 el.length cap3] 60) _ hlz9).trans p2
            have hn9 := Blk.new' W9 #[.string nm, .slice A3 el.length cap3] 60 hsz.symm
            have hb9 : Below W9.heap.size W9 (W9.alloc (.cells #[.string nm, .slice A3 el.length cap3] 60)) := (by repeat (first | exact Below.refl _ _ | assumption | apply Below.drew | apply below_drewN | (refine Below.alloc ?_ (by simp; try omega) _) | (refine Below.setCell ?_ (by simp; try omega) _)))
            refine bodyPost_ret (v := .tuple #[.agg #[.slice none 0 0, .slice (some ⟨wr.heap.size, 0, none⟩) 1 1, .slice none 0 0], .int .i64 0]) (by simp [results, Tryd.results9, go_sem, q0, q1, q2]) rfl (Or.inr ⟨by omega, Or.inl ⟨HOK.out, wr.heap.size, 1, A3, cap3, rfl, hB9.trans (hb9.mono hB9.size), ?_⟩⟩)
            rw [HEL.out]
            exact ⟨hn9.lt, hn9.cell 0, hn9.cell 1, (HF.out.below hb9).more hb9.size, G1.out, G2.out, Nat.le_refl _, by unfold maxLen; omega⟩
end Go.Proofs.YtgnodiegippkeaaDoor
