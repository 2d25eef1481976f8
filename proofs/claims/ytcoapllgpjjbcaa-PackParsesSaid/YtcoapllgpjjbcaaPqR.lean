/- Walk of the reference's Parse. -/
import Derived.Test.YtcoapllgpjjbcaaPqS
import Derived.Test.YtcoapllgpjjbcaaPkR
namespace Go.Proofs.Ytcoapllgpjjbcaa
open Go.RowKit
set_option linter.unusedVariables false
set_option linter.unusedSimpArgs false
attribute [local go_sem ↓] Go.wp_at_zero Go.wp_at_succ
set_option maxRecDepth 100000 in
set_option maxHeartbeats 2000000 in
theorem r_Parse_size (A : Option Addr) (cap : Nat) (bs : List Int) (w : World) (h1 : bs.length ≤ cap) (h2 : cap ≤ maxLen) (h : 20000 < bs.length ∨ bs.length < 8) :
    Calls Try.prog 10 #[.slice A bs.length cap] w (ParPost bs w) := by
  unfold maxLen at h2
  have hb : Below w.heap.size w (w.alloc (.cells #[.slice none 0 0, .int .i64 0, .slice none 0 0] 25)) := (by repeat (first | exact Below.refl _ _ | assumption | apply Below.drew | apply below_drewN | (refine Below.alloc ?_ (by simp; try omega) _) | (refine Below.setCell ?_ (by simp; try omega) _)))
  by_cases hl : 20000 < bs.length
  · have HE := Lib.hid (show paE bs = 2 by unfold paE; rw [if_pos hl])
    go_enter Try.func10, Try.ntmps10
    go_wp2_with fail
    exact bodyPost_ret (v := .tuple #[.agg #[.slice none 0 0, .int .i64 0, .slice none 0 0], .int .i64 2]) (by simp [results, Try.results10, go_sem]) rfl (par_bad HE.out (by decide) rfl hb)
  · have HE := Lib.hid (show paE bs = 4 by unfold paE; rw [if_neg hl, if_pos (by omega)])
    have h8 : bs.length < 8 := by omega
    clear h
    go_enter Try.func10, Try.ntmps10
    go_wp2_with fail
    exact bodyPost_ret (v := .tuple #[.agg #[.slice none 0 0, .int .i64 0, .slice none 0 0], .int .i64 4]) (by simp [results, Try.results10, go_sem]) rfl (par_bad HE.out (by decide) rfl hb)
set_option maxRecDepth 100000 in
set_option maxHeartbeats 8000000 in
theorem r_Parse_main (A : Option Addr) (cap : Nat) (bs : List Int) (w : World) (hS : SlAt w w.heap.size 1 A (bs.map byCells)) (hb : Byt bs) (h8 : 8 ≤ bs.length) (h20 : bs.length ≤ 20000) (h1 : bs.length ≤ cap) (h2 : cap ≤ maxLen) :
    Calls Try.prog 10 #[.slice A bs.length cap] w (ParPost bs w) := by
  unfold maxLen at h2
  obtain ⟨i0, hi0, hz0, hz1, hz2⟩ := info_parts info_Type
  obtain ⟨i1, hi1, hy0, hy1, hy2⟩ := info_parts info_Change
  obtain ⟨b, o, rfl, hbl, _⟩ := hS (by rw [List.length_map]; omega)
  have HBY := Lib.hid hb
  have HS := Lib.hid hS
  have b4 := hb.getD 4
  have b5 := hb.getD 5
  have b6 := frB_all ((hb.drop 6).take 2)
  rw [show ((bs.drop 6).take 2).length = 2 by rw [List.length_take, List.length_drop]; omega] at b6
  have P0 := Lib.hid (PbS.start w (bs.getD 5 0))
  have c4 := (P0.out.b.cell (p := ⟨b, o + 4, none⟩) hbl).trans (by_cell hS (k := 4) (by omega))
  have c5 := by_cell hS (k := 5) (by omega)
  have c5' := ((Below.refl w.heap.size w).alloc (Nat.le_refl _) (.cells #[.slice none 0 0, .int .i64 0, .slice none 0 0] 25)).cell (p := ⟨b, o + 5, none⟩) hbl
  have HP1 := Lib.hid (show paT bs = runT (bs.getD 4 0).toNat (bs.drop 8, false) from rfl)
  have HP2 := Lib.hid (show paC bs = runC (frB ((bs.drop 6).take 2)).toNat (paT bs).2 from rfl)
  obtain ⟨f, hf⟩ : ∃ f, bs.getD 5 0 = f := ⟨_, rfl⟩
  have HF := Lib.hid hf
  rw [hf] at b5 P0 c4 c5
  obtain ⟨nT, hnT⟩ : ∃ n : Nat, bs.getD 4 0 = n := ⟨(bs.getD 4 0).toNat, by omega⟩
  rw [hnT] at b4 HP1 c4
  obtain ⟨nC, hnC⟩ : ∃ n : Nat, frB ((bs.drop 6).take 2) = n := ⟨(frB ((bs.drop 6).take 2)).toNat, by omega⟩
  have HNC := Lib.hid hnC
  rw [hnC] at b6 HP2
  simp only [Int.toNat_natCast] at HP1 HP2
  have w4 : IntKind.i64.wrap (nT : Int) = nT := IntWalk.i64_in _ (by omega)
  have w5 : IntKind.i64.wrap f = f := IntWalk.i64_in _ (by omega)
  have w6 : IntKind.i64.wrap (nC : Int) = nC := IntWalk.i64_in _ (by omega)
  rw [c5] at c5'
  clear hS hb hf hnT hnC
  go_enter Try.func10, Try.ntmps10
  go_upto_region 9 with fail
  clear c4 c5 c5'
  obtain ⟨m, hm⟩ : ∃ m, w.heap.size + 1 = m := ⟨_, rfl⟩
  rw [hm] at P0 ⊢
  revert P0
  generalize (w.alloc (.cells #[.slice none 0 0, .int .i64 0, .slice none 0 0] 25)).alloc (.cells #[.slice none 0 0, .int .i64 f, .slice none 0 0] 25) = W1
  intro P0
  clear hm
  obtain ⟨s0, hs0⟩ : ∃ s : RS, s = (bs.drop 8, false) := ⟨_, rfl⟩
  rw [← hs0] at HP1
  have HS0 := Lib.hid hs0
  clear hs0
  go_loopw [5, 25] (fun av iv wr => ∃ k p : Nat, k ≤ nT ∧ iv = .int .i64 k ∧ av = .int .i64 p ∧ p ≤ bs.length ∧ (runT k s0).2 = (bs.drop p, false) ∧ ∃ T, PbS w wr m T (.slice none 0 0) f (runT k s0).1 []) (fun _ iv _ => nT - (intOf iv).toNat)
  case atStart => exact ⟨0, 8, Nat.zero_le _, rfl, rfl, h8, HS0.out, _, P0.out⟩
  case round =>
    obtain ⟨k, p, hk, rfl, rfl, hp, hst, T, hP⟩ := hrel
    have hlen := runT_len s0 k
    clear P0
    by_cases hlt : k < nT
    · have hn1 : runT (k + 1) s0 = ((runT k s0).1 ++ [(rdTy (runT k s0).2).1], (rdTy (runT k s0).2).2) := rfl
      obtain ⟨ts, hts⟩ : ∃ x, (runT k s0).1 = x := ⟨_, rfl⟩
      rw [hts] at hP hn1 hlen
      rw [hst] at hn1
      have HN1 := Lib.hid hn1
      have PP := Lib.hid hP
      clear hst hts hn1
      by_cases c1 : bs.length < p + 6
      · have HE := Lib.hid (pa_short_T h8 h20 HP1.out HP2.out (show k + 1 ≤ nT from hlt) (by rw [HN1.out]; exact rdTy_bad HBY.out hp (Or.inl c1)))
        have hr := hP.r.cell
        have hrf := hP.r.frz
        have hrl := hP.r.lt
        have hc1 : (bs.length : Int) < (p : Int) + 6 := by omega
        clear hP hlen
        go_wp2_with fail
        obtain ⟨q0, q1, q2⟩ := cells3 (x := .slice none 0 0) (y := .int .i64 0) (z := .slice none 0 0) (hr 0) (hr 1) (hr 2)
        have hBB := below3 (x := .slice none 0 0) (y := .int .i64 0) (z := .slice none 0 0) PP.out.b (Nat.le_refl _)
        revert q0 q1 q2 hBB
        generalize ((wr.setCell ⟨w.heap.size, 0, none⟩ (.slice none 0 0)).setCell ⟨w.heap.size, 1, none⟩ (.int .i64 0)).setCell ⟨w.heap.size, 2, none⟩ (.slice none 0 0) = W'
        intro q0 q1 q2 hBB
        exact bodyPost_ret (v := .tuple #[.agg #[.slice none 0 0, .int .i64 0, .slice none 0 0], .int .i64 4]) (by simp [results, Try.results10, go_sem, q0, q1, q2]) rfl (par_bad HE.out (by decide) rfl hBB)
      · obtain ⟨nn, hnn⟩ : ∃ n : Nat, bs.getD (p + 5) 0 = n := ⟨(bs.getD (p + 5) 0).toNat, by have := HBY.out.getD (p + 5); omega⟩
        have hn5 := HBY.out.getD (p + 5)
        have hW := (HS.out.below hP.b)
        have cB := by_cell hW (k := p + 5) (by omega)
        rw [hnn] at cB hn5
        have hc1 : ¬ (bs.length : Int) < (p : Int) + 6 := by omega
        have wn : IntKind.i64.wrap (nn : Int) = nn := IntWalk.i64_in _ (by omega)
        have hbr : b < wr.heap.size := Nat.lt_of_lt_of_le hbl hP.b.size
        have hi5 : (p : Int) + 5 < (bs.length : Int) := by omega
        by_cases c2 : bs.length < p + 6 + nn
        · have HE := Lib.hid (pa_short_T h8 h20 HP1.out HP2.out (show k + 1 ≤ nT from hlt) (by rw [HN1.out]; exact rdTy_bad HBY.out hp (Or.inr (by rw [hnn]; omega))))
          have hr := hP.r.cell
          have hrf := hP.r.frz
          have hrl := hP.r.lt
          have hc2 : (bs.length : Int) < (p : Int) + 6 + nn := by omega
          clear hP hlen hnn hW
          go_wp2_with fail
          obtain ⟨q0, q1, q2⟩ := cells3 (x := .slice none 0 0) (y := .int .i64 0) (z := .slice none 0 0) (hr 0) (hr 1) (hr 2)
          have hBB := below3 (x := .slice none 0 0) (y := .int .i64 0) (z := .slice none 0 0) PP.out.b (Nat.le_refl _)
          revert q0 q1 q2 hBB
          generalize ((wr.setCell ⟨w.heap.size, 0, none⟩ (.slice none 0 0)).setCell ⟨w.heap.size, 1, none⟩ (.int .i64 0)).setCell ⟨w.heap.size, 2, none⟩ (.slice none 0 0) = W'
          intro q0 q1 q2 hBB
          exact bodyPost_ret (v := .tuple #[.agg #[.slice none 0 0, .int .i64 0, .slice none 0 0], .int .i64 4]) (by simp [results, Try.results10, go_sem, q0, q1, q2]) rfl (par_bad HE.out (by decide) rfl hBB)
        · have hc2 : ¬ (bs.length : Int) < (p : Int) + 6 + nn := by omega
          have hrt := rdTy_ok (bs := bs) (at' := p) (n := nn) (by omega) hnn
          have cA := by_cell hW (k := p + 4) (by omega)
          have hv4 := HBY.out.getD (p + 4)
          obtain ⟨sv, hsv⟩ : ∃ s, bs.getD (p + 4) 0 = s := ⟨_, rfl⟩
          rw [hsv] at cA hv4 hrt
          have l4 : ((bs.drop p).take 4).length = 4 := by rw [List.length_take, List.length_drop]; omega
          have bo := frB_all ((HBY.out.drop p).take 4)
          rw [l4] at bo
          have HA4 := Lib.hid (sl_part hW p 4)
          have HFB := Lib.hid (fun (W : World) (hb : Below w.heap.size wr W) => r_fromBytes (some ⟨b, o + p, none⟩) (cap - p) ((bs.drop p).take 4) W ((HA4.out.below hb).more (Nat.le_trans hP.b.size hb.size)) ((HBY.out.drop p).take 4) (by omega) (by omega) (by unfold maxLen; omega))
          obtain ⟨a, ha⟩ : ∃ a, frB ((bs.drop p).take 4) = a := ⟨_, rfl⟩
          rw [ha] at bo hrt HFB
          rw [l4] at HFB
          have wa : IntKind.i64.wrap a = a := IntWalk.i64_in _ (by omega)
          have hx0 : (0 : Int) ≤ (p : Int) := by omega
          have hx1 : (0 : Int) ≤ (p : Int) + 4 := by omega
          have hx2 : (p : Int) + 4 ≤ (cap : Int) := by omega
          have hx3 : (p : Int) ≤ (p : Int) + 4 := by omega
          have hx4 : (p : Int) + 4 < (bs.length : Int) := by omega
          have hx5 : (0 : Int) ≤ (p : Int) + 5 := by omega
          have hx6 : (0 : Int) ≤ (p : Int) + 6 := by omega
          have hx7 : (p : Int) + 6 ≤ (p : Int) + 6 + (nn : Int) := by omega
          have hx8 : (0 : Int) ≤ (p : Int) + 6 + (nn : Int) := by omega
          have hx9 : (p : Int) + 6 + (nn : Int) ≤ (cap : Int) := by omega
          have ht4 : ((p : Int) + 4).toNat = p + 4 := by omega
          have ht5 : ((p : Int) + 5).toNat = p + 5 := by omega
          have ht6 : ((p : Int) + 6).toNat = p + 6 := by omega
          have ht7 : ((p : Int) + 6 + (nn : Int)).toNat = p + 6 + nn := by omega
          have ht8 : p + 6 + nn - (p + 6) = nn := by omega
          have ht9 : p + 4 - p = 4 := by omega
          have wp4 : IntKind.i64.wrap ((p : Int) + 4) = (p : Int) + 4 := IntWalk.i64_in _ (by omega)
          have wp5 : IntKind.i64.wrap ((p : Int) + 5) = (p : Int) + 5 := IntWalk.i64_in _ (by omega)
          have wp6 : IntKind.i64.wrap ((p : Int) + 6) = (p : Int) + 6 := IntWalk.i64_in _ (by omega)
          have wp7 : IntKind.i64.wrap ((p : Int) + 6 + (nn : Int)) = (p : Int) + 6 + (nn : Int) := IntWalk.i64_in _ (by omega)
          have wa2 : IntKind.i64.wrap (a - 2147483648) = a - 2147483648 := IntWalk.i64_in _ (by omega)
          have HN2 := Lib.hid (show runT (k + 1) s0 = (ts ++ [(a - 2147483648, decide (sv = 1), strOfNums ((bs.drop (p + 6)).take nn))], (bs.drop (p + 6 + nn), false)) by rw [HN1.out, hrt])
          obtain ⟨q, hq⟩ : ∃ q, decide (sv = 1) = q := ⟨_, rfl⟩
          have hq2 : (sv == 1) = q := by rw [← hq]; by_cases h : sv = 1 <;> simp [h]
          have HQ := Lib.hid hq
          have kmc := hP.mb.cell
          have kml := hP.mb.lt
          have hcp : ¬ cap = p := by omega
          have hadd : (⟨b, o, none⟩ : Addr).add p = ⟨b, o + p, none⟩ := by simp [Addr.add]
          have hadd6 : (⟨b, o, none⟩ : Addr).add (p + 6) = ⟨b, o + (p + 6), none⟩ := by simp [Addr.add]
          have hl6 : ((bs.drop (p + 6)).take nn).length = nn := by rw [List.length_take, List.length_drop]; omega
          obtain ⟨AA, hif, hAs⟩ : ∃ AA : Option Addr, (if cap = p + 6 then some (⟨b, o, none⟩ : Addr) else some ⟨b, o + (p + 6), none⟩) = AA ∧ SlAt wr w.heap.size 1 AA (((bs.drop (p + 6)).take nn).map byCells) := by
            by_cases hc6 : cap = p + 6
            · refine ⟨some ⟨b, o, none⟩, if_pos hc6, ?_⟩
              rw [show (bs.drop (p + 6)).take nn = [] from List.eq_nil_of_length_eq_zero (by rw [hl6]; omega)]
              exact SlAt.none_ _ _ _ _
            · exact ⟨some ⟨b, o + (p + 6), none⟩, if_neg hc6, sl_part hW (p + 6) nn⟩
          have hcv := fun (W : World) (hb : Below w.heap.size wr W) => sl_conv (hAs.below hb) (cap - (p + 6))
          rw [hl6] at hcv
          have HLN := Lib.hid hlen
          clear hq hnn hW hrt hsv ha HN1 hlen hP hl6 hAs
          obtain ⟨nm, hnm⟩ : ∃ x, strOfNums ((bs.drop (p + 6)).take nn) = x := ⟨_, rfl⟩
          rw [hnm] at hcv HN2
          clear hnm
          · have HCV := Lib.hid hcv
            have hlen' := HLN.out
            have hlt255 : ts.length ≤ 255 := by omega
            clear hcv hlen' kmc kml
            go_upto_region 12 with fail
            -- GEN12 BEGIN
            refine wp_region_noPanic ?_
            refine wp_region_held_drew (S := fun W' : World => Below w.heap.size wr W') (by kernel_rfl) (Below.refl _ _).drew (fun hHeld => ?_)
            have P0v := PP.out.drew
            obtain ⟨v0, hv0⟩ : ∃ x, wr.drew = x := ⟨_, rfl⟩
            rw [hv0] at hHeld P0v ⊢
            clear hv0
            have hzv : w.heap.size ≤ v0.heap.size := P0v.b.size
            refine wpAnyH_take (i := 0) (v := ?_) rfl (by kernel_rfl) (by kernel_rfl) (by kernel_rfl) (fun _ _ _ h => h) (Or.inl ⟨by rfl, ?_⟩) hHeld ?_
            rotate_left
            · intro wq hSw
              go_simp
              try with_reducible rfl
            try simp only [Act.put, List.getElem_toArray, List.getElem_cons_succ, List.getElem_cons_zero, List.setIfInBounds_toArray, List.set_cons_zero, List.set_cons_succ]
            refine wpAnyH_take (i := 2) (v := ?_) rfl (by kernel_rfl) (by kernel_rfl) (by kernel_rfl) (fun _ _ _ h => h) (Or.inl ⟨by rfl, ?_⟩) hHeld ?_
            rotate_left
            · intro wq hSw
              go_simp
              try with_reducible rfl
            try simp only [Act.put, List.getElem_toArray, List.getElem_cons_succ, List.getElem_cons_zero, List.setIfInBounds_toArray, List.set_cons_zero, List.set_cons_succ]
            refine wpAnyH_take (i := 3) (v := ?_) rfl (by kernel_rfl) (by kernel_rfl) (by kernel_rfl) (fun _ _ _ h => h) (Or.inl ⟨by rfl, ?_⟩) hHeld ?_
            rotate_left
            · intro wq hSw
              go_simp
              try with_reducible rfl
            try simp only [Act.put, List.getElem_toArray, List.getElem_cons_succ, List.getElem_cons_zero, List.setIfInBounds_toArray, List.set_cons_zero, List.set_cons_succ]
            refine wpAnyH_take (i := 4) (v := ?_) rfl (by kernel_rfl) (by kernel_rfl) (by kernel_rfl) (fun _ _ _ h => h) (Or.inl ⟨by rfl, ?_⟩) hHeld ?_
            rotate_left
            · intro wq hSw
              go_simp
              try with_reducible rfl
            try simp only [Act.put, List.getElem_toArray, List.getElem_cons_succ, List.getElem_cons_zero, List.setIfInBounds_toArray, List.set_cons_zero, List.set_cons_succ]
            refine wpAnyH_take (i := 5) (v := ?_) rfl (by kernel_rfl) (by kernel_rfl) (by kernel_rfl) (fun _ _ _ h => h) (Or.inl ⟨by rfl, ?_⟩) hHeld ?_
            rotate_left
            · intro wq hSw
              go_simp
              try with_reducible rfl
            try simp only [Act.put, List.getElem_toArray, List.getElem_cons_succ, List.getElem_cons_zero, List.setIfInBounds_toArray, List.set_cons_zero, List.set_cons_succ]
            refine wpAnyH_take (i := 6) (v := ?_) rfl (by kernel_rfl) (by kernel_rfl) (by kernel_rfl) (fun _ _ _ h => h) (Or.inl ⟨by rfl, ?_⟩) hHeld ?_
            rotate_left
            · intro wq hSw
              go_simp
              try with_reducible rfl
            try simp only [Act.put, List.getElem_toArray, List.getElem_cons_succ, List.getElem_cons_zero, List.setIfInBounds_toArray, List.set_cons_zero, List.set_cons_succ]
            refine wpAnyH_take (i := 10) (v := ?_) rfl (by kernel_rfl) (by kernel_rfl) (by kernel_rfl) (fun _ _ _ h => h) (Or.inl ⟨by rfl, ?_⟩) hHeld ?_
            rotate_left
            · intro wq hSw
              go_simp
              try with_reducible rfl
            try simp only [Act.put, List.getElem_toArray, List.getElem_cons_succ, List.getElem_cons_zero, List.setIfInBounds_toArray, List.set_cons_zero, List.set_cons_succ]
            refine wpAnyH_take (i := 11) (v := ?_) rfl (by kernel_rfl) (by kernel_rfl) (by kernel_rfl) (fun _ _ _ h => h) (Or.inl ⟨by rfl, ?_⟩) hHeld ?_
            rotate_left
            · intro wq hSw
              go_simp
              try with_reducible rfl
            try simp only [Act.put, List.getElem_toArray, List.getElem_cons_succ, List.getElem_cons_zero, List.setIfInBounds_toArray, List.set_cons_zero, List.set_cons_succ]
            refine wpAnyH_take (i := 12) (v := ?_) rfl (by kernel_rfl) (by kernel_rfl) (by kernel_rfl) (fun _ _ _ h => h) (Or.inl ⟨by rfl, ?_⟩) hHeld ?_
            rotate_left
            · intro wq hSw
              go_simp
              try with_reducible rfl
            try simp only [Act.put, List.getElem_toArray, List.getElem_cons_succ, List.getElem_cons_zero, List.setIfInBounds_toArray, List.set_cons_zero, List.set_cons_succ]
            refine wpAnyH_take (i := 13) (v := ?_) rfl (by kernel_rfl) (by kernel_rfl) (by kernel_rfl) (fun _ _ _ h => h) (Or.inl ⟨by rfl, ?_⟩) hHeld ?_
            rotate_left
            · intro wq hSw
              go_simp
              try with_reducible rfl
            try simp only [Act.put, List.getElem_toArray, List.getElem_cons_succ, List.getElem_cons_zero, List.setIfInBounds_toArray, List.set_cons_zero, List.set_cons_succ]
            refine wpAnyH_take (i := 14) (v := ?_) rfl (by kernel_rfl) (by kernel_rfl) (by kernel_rfl) (fun _ _ _ h => h) (Or.inl ⟨by rfl, ?_⟩) hHeld ?_
            rotate_left
            · intro wq hSw
              have qA := (hSw.cell (p := ⟨b, o + (p + 4), none⟩) hbl).trans cA
              go_simp
              try with_reducible rfl
            try simp only [Act.put, List.getElem_toArray, List.getElem_cons_succ, List.getElem_cons_zero, List.setIfInBounds_toArray, List.set_cons_zero, List.set_cons_succ]
            refine wpAnyH_take (i := 15) (v := ?_) rfl (by kernel_rfl) (by kernel_rfl) (by kernel_rfl) (fun _ _ _ h => h) (Or.inl ⟨by rfl, ?_⟩) hHeld ?_
            rotate_left
            · intro wq hSw
              go_simp
              try with_reducible rfl
            try simp only [Act.put, List.getElem_toArray, List.getElem_cons_succ, List.getElem_cons_zero, List.setIfInBounds_toArray, List.set_cons_zero, List.set_cons_succ]
            refine wpAnyH_take (i := 16) (v := ?_) rfl (by kernel_rfl) (by kernel_rfl) (by kernel_rfl) (fun _ _ _ h => h) (Or.inl ⟨by rfl, ?_⟩) hHeld ?_
            rotate_left
            · intro wq hSw
              go_simp
              try with_reducible rfl
            try simp only [Act.put, List.getElem_toArray, List.getElem_cons_succ, List.getElem_cons_zero, List.setIfInBounds_toArray, List.set_cons_zero, List.set_cons_succ]
            refine wpAnyH_take (i := 17) (v := ?_) rfl (by kernel_rfl) (by kernel_rfl) (by kernel_rfl) (fun _ _ _ h => h) (Or.inl ⟨by rfl, ?_⟩) hHeld ?_
            rotate_left
            · intro wq hSw
              go_simp
              try with_reducible rfl
            try simp only [Act.put, List.getElem_toArray, List.getElem_cons_succ, List.getElem_cons_zero, List.setIfInBounds_toArray, List.set_cons_zero, List.set_cons_succ]
            refine wpAnyH_take (i := 18) (v := ?_) rfl (by kernel_rfl) (by kernel_rfl) (by kernel_rfl) (fun _ _ _ h => h) (Or.inl ⟨by rfl, ?_⟩) hHeld ?_
            rotate_left
            · intro wq hSw
              go_simp
              try with_reducible rfl
            try simp only [Act.put, List.getElem_toArray, List.getElem_cons_succ, List.getElem_cons_zero, List.setIfInBounds_toArray, List.set_cons_zero, List.set_cons_succ]
            refine wpAnyH_take (i := 19) (v := ?_) rfl (by kernel_rfl) (by kernel_rfl) (by kernel_rfl) (fun _ _ _ h => h) (Or.inl ⟨by rfl, ?_⟩) hHeld ?_
            rotate_left
            · intro wq hSw
              go_simp
              try with_reducible rfl
            try simp only [Act.put, List.getElem_toArray, List.getElem_cons_succ, List.getElem_cons_zero, List.setIfInBounds_toArray, List.set_cons_zero, List.set_cons_succ]
            refine wpAnyH_take (i := 20) (v := ?_) rfl (by kernel_rfl) (by kernel_rfl) (by kernel_rfl) (fun _ _ _ h => h) (Or.inl ⟨by rfl, ?_⟩) hHeld ?_
            rotate_left
            · intro wq hSw
              go_simp
              try with_reducible rfl
            try simp only [Act.put, List.getElem_toArray, List.getElem_cons_succ, List.getElem_cons_zero, List.setIfInBounds_toArray, List.set_cons_zero, List.set_cons_succ]
            refine wpAnyH_take (i := 21) (v := ?_) rfl (by kernel_rfl) (by kernel_rfl) (by kernel_rfl) (fun _ _ _ h => h) (Or.inl ⟨by rfl, ?_⟩) hHeld ?_
            rotate_left
            · intro wq hSw
              go_simp
              try with_reducible rfl
            try simp only [Act.put, List.getElem_toArray, List.getElem_cons_succ, List.getElem_cons_zero, List.setIfInBounds_toArray, List.set_cons_zero, List.set_cons_succ]
            refine wpAnyH_take (i := 22) (v := ?_) rfl (by kernel_rfl) (by kernel_rfl) (by kernel_rfl) (fun _ _ _ h => h) (Or.inl ⟨by rfl, ?_⟩) hHeld ?_
            rotate_left
            · intro wq hSw
              go_simp
              try with_reducible rfl
            try simp only [Act.put, List.getElem_toArray, List.getElem_cons_succ, List.getElem_cons_zero, List.setIfInBounds_toArray, List.set_cons_zero, List.set_cons_succ]
            refine wpAnyH_take (i := 23) (v := ?_) rfl (by kernel_rfl) (by kernel_rfl) (by kernel_rfl) (fun _ _ _ h => h) (Or.inl ⟨by rfl, ?_⟩) hHeld ?_
            rotate_left
            · intro wq hSw
              go_simp
              try with_reducible rfl
            try simp only [Act.put, List.getElem_toArray, List.getElem_cons_succ, List.getElem_cons_zero, List.setIfInBounds_toArray, List.set_cons_zero, List.set_cons_succ]
            refine wpAnyH_take (i := 24) (v := ?_) rfl (by kernel_rfl) (by kernel_rfl) (by kernel_rfl) (fun _ _ _ h => h) (Or.inl ⟨by rfl, ?_⟩) hHeld ?_
            rotate_left
            · intro wq hSw
              go_simp
              try with_reducible rfl
            try simp only [Act.put, List.getElem_toArray, List.getElem_cons_succ, List.getElem_cons_zero, List.setIfInBounds_toArray, List.set_cons_zero, List.set_cons_succ]
            refine wpAnyH_take (i := 25) (v := ?_) rfl (by kernel_rfl) (by kernel_rfl) (by kernel_rfl) (fun _ _ _ h => h) (Or.inl ⟨by rfl, ?_⟩) hHeld ?_
            rotate_left
            · intro wq hSw
              have qB := (hSw.cell (p := ⟨b, o + (p + 5), none⟩) hbl).trans cB
              go_simp
              try with_reducible rfl
            try simp only [Act.put, List.getElem_toArray, List.getElem_cons_succ, List.getElem_cons_zero, List.setIfInBounds_toArray, List.set_cons_zero, List.set_cons_succ]
            refine wpAnyH_take (i := 26) (v := ?_) rfl (by kernel_rfl) (by kernel_rfl) (by kernel_rfl) (fun _ _ _ h => h) (Or.inl ⟨by rfl, ?_⟩) hHeld ?_
            rotate_left
            · intro wq hSw
              go_simp
              try with_reducible rfl
            try simp only [Act.put, List.getElem_toArray, List.getElem_cons_succ, List.getElem_cons_zero, List.setIfInBounds_toArray, List.set_cons_zero, List.set_cons_succ]
            refine wpAnyH_take (i := 27) (v := ?_) rfl (by kernel_rfl) (by kernel_rfl) (by kernel_rfl) (fun _ _ _ h => h) (Or.inl ⟨by rfl, ?_⟩) hHeld ?_
            rotate_left
            · intro wq hSw
              go_simp
              try with_reducible rfl
            try simp only [Act.put, List.getElem_toArray, List.getElem_cons_succ, List.getElem_cons_zero, List.setIfInBounds_toArray, List.set_cons_zero, List.set_cons_succ]
            refine wpAnyH_take (i := 28) (v := ?_) rfl (by kernel_rfl) (by kernel_rfl) (by kernel_rfl) (fun _ _ _ h => h) (Or.inl ⟨by rfl, ?_⟩) hHeld ?_
            rotate_left
            · intro wq hSw
              go_simp
              try with_reducible rfl
            try simp only [Act.put, List.getElem_toArray, List.getElem_cons_succ, List.getElem_cons_zero, List.setIfInBounds_toArray, List.set_cons_zero, List.set_cons_succ]
            refine wpAnyH_take (i := 29) (v := ?_) rfl (by kernel_rfl) (by kernel_rfl) (by kernel_rfl) (fun _ _ _ h => h) (Or.inl ⟨by rfl, ?_⟩) hHeld ?_
            rotate_left
            · intro wq hSw
              have qC := HCV.out wq hSw
              go_simp
              try with_reducible rfl
            try simp only [Act.put, List.getElem_toArray, List.getElem_cons_succ, List.getElem_cons_zero, List.setIfInBounds_toArray, List.set_cons_zero, List.set_cons_succ]
            refine wpAnyH_ready (rs := [1, 7]) (by kernel_rfl) (by simp) ?_
            refine AllReadyH.cons rfl (fun K hK => ?_) ?_
            · skip
              have q1 := P0v.mb.cell 0
              go_simp
              refine hK.out _ _ hHeld (fun _ => ?_)
              clear hK K q1
              try simp only [Act.put, List.getElem_toArray, List.getElem_cons_succ, List.getElem_cons_zero, List.setIfInBounds_toArray, List.set_cons_zero, List.set_cons_succ]
              refine wpAnyH_ready (rs := [7]) (by kernel_rfl) (by simp) ?_
              refine AllReadyH.cons rfl (fun K hK => ?_) AllReadyH.nil
              go_simp
              go_at_call 24
              refine (HFB.out v0 hHeld).mono ?_
              rintro e w4 ⟨rfl, hw4⟩
              have hw4s := hw4.symm
              clear hw4
              subst hw4s
              try go_wp2_with fail
              refine hK.out _ _ hHeld (fun _ => ?_)
              clear hK K
              try simp only [Act.put, List.getElem_toArray, List.getElem_cons_succ, List.getElem_cons_zero, List.setIfInBounds_toArray, List.set_cons_zero, List.set_cons_succ]
              refine wpAnyH_take (i := 8) (v := ?_) rfl (by kernel_rfl) (by kernel_rfl) (by kernel_rfl) (fun _ _ _ h => h) (Or.inl ⟨by rfl, ?_⟩) hHeld ?_
              rotate_left
              · intro wq hSw
                go_simp
                try with_reducible rfl
              try simp only [Act.put, List.getElem_toArray, List.getElem_cons_succ, List.getElem_cons_zero, List.setIfInBounds_toArray, List.set_cons_zero, List.set_cons_succ]
              refine wpAnyH_take (i := 9) (v := ?_) rfl (by kernel_rfl) (by kernel_rfl) (by kernel_rfl) (fun _ _ _ h => h) (Or.inl ⟨by rfl, ?_⟩) hHeld ?_
              rotate_left
              · intro wq hSw
                go_simp
                try with_reducible rfl
              try simp only [Act.put, List.getElem_toArray, List.getElem_cons_succ, List.getElem_cons_zero, List.setIfInBounds_toArray, List.set_cons_zero, List.set_cons_succ]
              refine wpAnyH_take (i := 30) (v := ?_) rfl (by kernel_rfl) (by kernel_rfl) (by kernel_rfl) (fun _ _ _ h => h) (Or.inl ⟨by rfl, ?_⟩) hHeld ?_
              rotate_left
              · intro wq hSw
                go_simp
                try with_reducible rfl
              try simp only [Act.put, List.getElem_toArray, List.getElem_cons_succ, List.getElem_cons_zero, List.setIfInBounds_toArray, List.set_cons_zero, List.set_cons_succ]
              refine wpAnyH_ready (rs := [31]) (by kernel_rfl) (by simp) ?_
              refine AllReadyH.cons rfl (fun K hK => ?_) AllReadyH.nil
              go_simp
              refine hK.out _ _ (hHeld.alloc hzv _) (fun hHeld2 => ?_)
              clear hK K hHeld
              have hHeld := hHeld2
              clear hHeld2
              try simp only [Act.put, List.getElem_toArray, List.getElem_cons_succ, List.getElem_cons_zero, List.setIfInBounds_toArray, List.set_cons_zero, List.set_cons_succ]
              have P1 := P0v.alloc (.cells #[.int .i64 (a - 2147483648), .bool q, .string nm] 50)
              refine wpAnyH_ready (rs := [32]) (by kernel_rfl) (by simp) ?_
              refine AllReadyH.cons rfl (fun K hK => ?_) AllReadyH.nil
              refine step_append_lies _ (by rfl) _ _ _ (by rfl) w.heap.size 50 i0 _ 3 32 Try.underlying22 hi0 hz0 hz1 hz2 rfl (by omega) T ts.length _ (by rfl) P1.hT ⟨v0.heap.size, 0, none⟩ 1 1 (tyCells (a - 2147483648, q, nm)) (by rfl) (by rfl) (World.news_of_block (cs := (tyCells (a - 2147483648, q, nm)).toArray) (t := 50) (fr := (0, 0)) (heap_alloc_new v0 _)) (by simp [Value.oneCell', tyCells]) (by omega) (by unfold maxLen; omega) (by omega) (by simp; omega) (v0.heap.size + 1) (by simp) ?_; intro gg cap2 w6 hown1 hgrow hat hlt6
              have hb6 := below_app (by have := P1.b.size; exact this) P1.hT hgrow
              have P6 := P1.appT hgrow hown1
              have hm6 := Blk.grown' hgrow P1.mb (P1.mb.own_ne P1.hT (by decide))
              refine hK.out _ _ (hHeld.trans hb6) (fun hHeld2 => ?_)
              clear hK K hHeld
              have hHeld := hHeld2
              clear hHeld2
              try simp only [Act.put, List.getElem_toArray, List.getElem_cons_succ, List.getElem_cons_zero, List.setIfInBounds_toArray, List.set_cons_zero, List.set_cons_succ]
              refine wpAnyH_take (i := 33) (v := ?_) rfl (by kernel_rfl) (by kernel_rfl) (by kernel_rfl) (fun _ _ _ h => h) (Or.inl ⟨by rfl, ?_⟩) hHeld ?_
              rotate_left
              · intro wq hSw
                go_simp
                try with_reducible rfl
              try simp only [Act.put, List.getElem_toArray, List.getElem_cons_succ, List.getElem_cons_zero, List.setIfInBounds_toArray, List.set_cons_zero, List.set_cons_succ]
              refine wpAnyH_ready (rs := [34]) (by kernel_rfl) (by simp) ?_
              refine AllReadyH.cons rfl (fun K hK => ?_) AllReadyH.nil
              have y0 := hm6.cell 0
              have y1 := hm6.frz 0
              have y2 := hm6.lt
              go_simp
              refine hK.out _ _ (hHeld.setCell (p := ⟨m, 0, none⟩) (Nat.le_of_lt P1.hm) _) (fun hF => ?_)
              have hF2 : Below w.heap.size wr _ := hF
              clear hK K y0 y1 y2 hHeld hF
              try simp only [Act.put, List.getElem_toArray, List.getElem_cons_succ, List.getElem_cons_zero, List.setIfInBounds_toArray, List.set_cons_zero, List.set_cons_succ]
              refine wpAnyH_done (by kernel_rfl) ?_ _
              refine NoPanic.normal ?_
              have qE := (hF2.cell (p := ⟨b, o + (p + 5), none⟩) hbl).trans cB
              go_wp2_with fail
              exact ⟨⟨k + 1, p + 6 + nn, by omega, by go_num, by go_num, by omega, by rw [HN2.out], _, by rw [HN2.out, HQ.out]; exact P6⟩, by simp [intOf]; omega⟩
            refine AllReadyH.cons rfl (fun K hK => ?_) AllReadyH.nil
            go_simp
            go_at_call 24
            refine (HFB.out v0 hHeld).mono ?_
            rintro e w4 ⟨rfl, hw4⟩
            have hw4s := hw4.symm
            clear hw4
            subst hw4s
            try go_wp2_with fail
            refine hK.out _ _ hHeld (fun _ => ?_)
            clear hK K
            try simp only [Act.put, List.getElem_toArray, List.getElem_cons_succ, List.getElem_cons_zero, List.setIfInBounds_toArray, List.set_cons_zero, List.set_cons_succ]
            refine wpAnyH_take (i := 8) (v := ?_) rfl (by kernel_rfl) (by kernel_rfl) (by kernel_rfl) (fun _ _ _ h => h) (Or.inl ⟨by rfl, ?_⟩) hHeld ?_
            rotate_left
            · intro wq hSw
              go_simp
              try with_reducible rfl
            try simp only [Act.put, List.getElem_toArray, List.getElem_cons_succ, List.getElem_cons_zero, List.setIfInBounds_toArray, List.set_cons_zero, List.set_cons_succ]
            refine wpAnyH_take (i := 9) (v := ?_) rfl (by kernel_rfl) (by kernel_rfl) (by kernel_rfl) (fun _ _ _ h => h) (Or.inl ⟨by rfl, ?_⟩) hHeld ?_
            rotate_left
            · intro wq hSw
              go_simp
              try with_reducible rfl
            try simp only [Act.put, List.getElem_toArray, List.getElem_cons_succ, List.getElem_cons_zero, List.setIfInBounds_toArray, List.set_cons_zero, List.set_cons_succ]
            refine wpAnyH_take (i := 30) (v := ?_) rfl (by kernel_rfl) (by kernel_rfl) (by kernel_rfl) (fun _ _ _ h => h) (Or.inl ⟨by rfl, ?_⟩) hHeld ?_
            rotate_left
            · intro wq hSw
              go_simp
              try with_reducible rfl
            try simp only [Act.put, List.getElem_toArray, List.getElem_cons_succ, List.getElem_cons_zero, List.setIfInBounds_toArray, List.set_cons_zero, List.set_cons_succ]
            refine wpAnyH_ready (rs := [1, 31]) (by kernel_rfl) (by simp) ?_
            refine AllReadyH.cons rfl (fun K hK => ?_) ?_
            · skip
              have q1 := P0v.mb.cell 0
              go_simp
              refine hK.out _ _ hHeld (fun _ => ?_)
              clear hK K q1
              try simp only [Act.put, List.getElem_toArray, List.getElem_cons_succ, List.getElem_cons_zero, List.setIfInBounds_toArray, List.set_cons_zero, List.set_cons_succ]
              refine wpAnyH_ready (rs := [31]) (by kernel_rfl) (by simp) ?_
              refine AllReadyH.cons rfl (fun K hK => ?_) AllReadyH.nil
              go_simp
              refine hK.out _ _ (hHeld.alloc hzv _) (fun hHeld2 => ?_)
              clear hK K hHeld
              have hHeld := hHeld2
              clear hHeld2
              try simp only [Act.put, List.getElem_toArray, List.getElem_cons_succ, List.getElem_cons_zero, List.setIfInBounds_toArray, List.set_cons_zero, List.set_cons_succ]
              have P1 := P0v.alloc (.cells #[.int .i64 (a - 2147483648), .bool q, .string nm] 50)
              refine wpAnyH_ready (rs := [32]) (by kernel_rfl) (by simp) ?_
              refine AllReadyH.cons rfl (fun K hK => ?_) AllReadyH.nil
              refine step_append_lies _ (by rfl) _ _ _ (by rfl) w.heap.size 50 i0 _ 3 32 Try.underlying22 hi0 hz0 hz1 hz2 rfl (by omega) T ts.length _ (by rfl) P1.hT ⟨v0.heap.size, 0, none⟩ 1 1 (tyCells (a - 2147483648, q, nm)) (by rfl) (by rfl) (World.news_of_block (cs := (tyCells (a - 2147483648, q, nm)).toArray) (t := 50) (fr := (0, 0)) (heap_alloc_new v0 _)) (by simp [Value.oneCell', tyCells]) (by omega) (by unfold maxLen; omega) (by omega) (by simp; omega) (v0.heap.size + 1) (by simp) ?_; intro gg cap2 w6 hown1 hgrow hat hlt6
              have hb6 := below_app (by have := P1.b.size; exact this) P1.hT hgrow
              have P6 := P1.appT hgrow hown1
              have hm6 := Blk.grown' hgrow P1.mb (P1.mb.own_ne P1.hT (by decide))
              refine hK.out _ _ (hHeld.trans hb6) (fun hHeld2 => ?_)
              clear hK K hHeld
              have hHeld := hHeld2
              clear hHeld2
              try simp only [Act.put, List.getElem_toArray, List.getElem_cons_succ, List.getElem_cons_zero, List.setIfInBounds_toArray, List.set_cons_zero, List.set_cons_succ]
              refine wpAnyH_take (i := 33) (v := ?_) rfl (by kernel_rfl) (by kernel_rfl) (by kernel_rfl) (fun _ _ _ h => h) (Or.inl ⟨by rfl, ?_⟩) hHeld ?_
              rotate_left
              · intro wq hSw
                go_simp
                try with_reducible rfl
              try simp only [Act.put, List.getElem_toArray, List.getElem_cons_succ, List.getElem_cons_zero, List.setIfInBounds_toArray, List.set_cons_zero, List.set_cons_succ]
              refine wpAnyH_ready (rs := [34]) (by kernel_rfl) (by simp) ?_
              refine AllReadyH.cons rfl (fun K hK => ?_) AllReadyH.nil
              have y0 := hm6.cell 0
              have y1 := hm6.frz 0
              have y2 := hm6.lt
              go_simp
              refine hK.out _ _ (hHeld.setCell (p := ⟨m, 0, none⟩) (Nat.le_of_lt P1.hm) _) (fun hF => ?_)
              have hF2 : Below w.heap.size wr _ := hF
              clear hK K y0 y1 y2 hHeld hF
              try simp only [Act.put, List.getElem_toArray, List.getElem_cons_succ, List.getElem_cons_zero, List.setIfInBounds_toArray, List.set_cons_zero, List.set_cons_succ]
              refine wpAnyH_done (by kernel_rfl) ?_ _
              refine NoPanic.normal ?_
              have qE := (hF2.cell (p := ⟨b, o + (p + 5), none⟩) hbl).trans cB
              go_wp2_with fail
              exact ⟨⟨k + 1, p + 6 + nn, by omega, by go_num, by go_num, by omega, by rw [HN2.out], _, by rw [HN2.out, HQ.out]; exact P6⟩, by simp [intOf]; omega⟩
            refine AllReadyH.cons rfl (fun K hK => ?_) AllReadyH.nil
            go_simp
            refine hK.out _ _ (hHeld.alloc hzv _) (fun hHeld2 => ?_)
            clear hK K hHeld
            have hHeld := hHeld2
            clear hHeld2
            try simp only [Act.put, List.getElem_toArray, List.getElem_cons_succ, List.getElem_cons_zero, List.setIfInBounds_toArray, List.set_cons_zero, List.set_cons_succ]
            have P1 := P0v.alloc (.cells #[.int .i64 (a - 2147483648), .bool q, .string nm] 50)
            refine wpAnyH_ready (rs := [1]) (by kernel_rfl) (by simp) ?_
            refine AllReadyH.cons rfl (fun K hK => ?_) AllReadyH.nil
            have q1 := P1.mb.cell 0
            go_simp
            refine hK.out _ _ hHeld (fun _ => ?_)
            clear hK K q1
            try simp only [Act.put, List.getElem_toArray, List.getElem_cons_succ, List.getElem_cons_zero, List.setIfInBounds_toArray, List.set_cons_zero, List.set_cons_succ]
            refine wpAnyH_ready (rs := [32]) (by kernel_rfl) (by simp) ?_
            refine AllReadyH.cons rfl (fun K hK => ?_) AllReadyH.nil
            refine step_append_lies _ (by rfl) _ _ _ (by rfl) w.heap.size 50 i0 _ 3 32 Try.underlying22 hi0 hz0 hz1 hz2 rfl (by omega) T ts.length _ (by rfl) P1.hT ⟨v0.heap.size, 0, none⟩ 1 1 (tyCells (a - 2147483648, q, nm)) (by rfl) (by rfl) (World.news_of_block (cs := (tyCells (a - 2147483648, q, nm)).toArray) (t := 50) (fr := (0, 0)) (heap_alloc_new v0 _)) (by simp [Value.oneCell', tyCells]) (by omega) (by unfold maxLen; omega) (by omega) (by simp; omega) (v0.heap.size + 1) (by simp) ?_; intro gg cap2 w6 hown1 hgrow hat hlt6
            have hb6 := below_app (by have := P1.b.size; exact this) P1.hT hgrow
            have P6 := P1.appT hgrow hown1
            have hm6 := Blk.grown' hgrow P1.mb (P1.mb.own_ne P1.hT (by decide))
            refine hK.out _ _ (hHeld.trans hb6) (fun hHeld2 => ?_)
            clear hK K hHeld
            have hHeld := hHeld2
            clear hHeld2
            try simp only [Act.put, List.getElem_toArray, List.getElem_cons_succ, List.getElem_cons_zero, List.setIfInBounds_toArray, List.set_cons_zero, List.set_cons_succ]
            refine wpAnyH_take (i := 33) (v := ?_) rfl (by kernel_rfl) (by kernel_rfl) (by kernel_rfl) (fun _ _ _ h => h) (Or.inl ⟨by rfl, ?_⟩) hHeld ?_
            rotate_left
            · intro wq hSw
              go_simp
              try with_reducible rfl
            try simp only [Act.put, List.getElem_toArray, List.getElem_cons_succ, List.getElem_cons_zero, List.setIfInBounds_toArray, List.set_cons_zero, List.set_cons_succ]
            refine wpAnyH_ready (rs := [34]) (by kernel_rfl) (by simp) ?_
            refine AllReadyH.cons rfl (fun K hK => ?_) AllReadyH.nil
            have y0 := hm6.cell 0
            have y1 := hm6.frz 0
            have y2 := hm6.lt
            go_simp
            refine hK.out _ _ (hHeld.setCell (p := ⟨m, 0, none⟩) (Nat.le_of_lt P1.hm) _) (fun hF => ?_)
            have hF2 : Below w.heap.size wr _ := hF
            clear hK K y0 y1 y2 hHeld hF
            try simp only [Act.put, List.getElem_toArray, List.getElem_cons_succ, List.getElem_cons_zero, List.setIfInBounds_toArray, List.set_cons_zero, List.set_cons_succ]
            refine wpAnyH_done (by kernel_rfl) ?_ _
            refine NoPanic.normal ?_
            have qE := (hF2.cell (p := ⟨b, o + (p + 5), none⟩) hbl).trans cB
            go_wp2_with fail
            exact ⟨⟨k + 1, p + 6 + nn, by omega, by go_num, by go_num, by omega, by rw [HN2.out], _, by rw [HN2.out, HQ.out]; exact P6⟩, by simp [intOf]; omega⟩
            -- GEN12 END
    · obtain rfl : k = nT := by omega
      rw [← HP1.out] at hP hlen hst
      have PP := Lib.hid hP
      have HNM := Lib.hid (show ∀ t ∈ (paT bs).1, t.2.2.size ≤ maxLen by rw [HP1.out]; exact runT_names (by rw [HS0.out]; exact HBY.out.drop 8) _)
      obtain ⟨ts, hts⟩ : ∃ x, (paT bs).1 = x := ⟨_, rfl⟩
      obtain ⟨t0, ht0⟩ : ∃ x, (paT bs).2 = x := ⟨_, rfl⟩
      rw [hts] at PP HNM
      rw [ht0] at hst
      have HT0 := Lib.hid ht0
      have HTS := Lib.hid hts
      have HST := Lib.hid hst
      have hc6 : ¬ cap = 6 := by omega
      have hadd : (⟨b, o, none⟩ : Addr).add 6 = ⟨b, o + 6, none⟩ := by simp [Addr.add]
      have l2 : ((bs.drop 6).take 2).length = 2 := by rw [List.length_take, List.length_drop]; omega
      have HF6 := Lib.hid (r_fromBytes (some ⟨b, o + 6, none⟩) (cap - 6) ((bs.drop 6).take 2) wr (((sl_part (HS.out.below hP.b) 6 2)).more hP.b.size) ((HBY.out.drop 6).take 2) (by omega) (by omega) (by unfold maxLen; omega))
      rw [l2, HNC.out] at HF6
      clear hP hlen hst hts ht0 hlt l2
      go_wp2_with fail
      refine HF6.out.mono ?_
      rintro e w7 ⟨rfl, hw7⟩
      have hw7s := hw7.symm
      clear hw7 HF6 hadd hc6
      subst hw7s
      go_wp2_with fail
      go_loopw [5, 95] (fun av iv wr => ∃ k p : Nat, k ≤ nC ∧ iv = .int .i64 k ∧ av = .int .i64 p ∧ p ≤ bs.length ∧ (runC k t0).2 = (bs.drop p, false) ∧ ∃ C, PbS w wr m T C f ts (runC k t0).1) (fun _ iv _ => nC - (intOf iv).toNat)
      case atStart => exact ⟨0, p, Nat.zero_le _, rfl, rfl, hp, HST.out, _, PP.out⟩
      case round =>
        clear PP HST hp
        obtain ⟨k, p, hk, rfl, rfl, hp, hst, C, hP⟩ := hrel
        have hlc := runC_len t0 k
        by_cases hlt : k < nC
        · have hn1 : runC (k + 1) t0 = ((runC k t0).1 ++ [(rdCh (runC k t0).2).1], (rdCh (runC k t0).2).2) := by rw [runC, if_neg (by rw [hst]; exact Bool.false_ne_true)]
          obtain ⟨cs, hcs⟩ : ∃ x, (runC k t0).1 = x := ⟨_, rfl⟩
          rw [hcs] at hP hn1 hlc
          rw [hst] at hn1
          have HN1 := Lib.hid hn1
          have PP := Lib.hid hP
          clear hst hcs hn1
          by_cases c1 : bs.length < p + 9
          · have HE := Lib.hid (pa_short_C (k := k + 1) h8 h20 HP2.out hlt (by rw [HT0.out, HN1.out]; exact rdCh_bad hp c1))
            have hr := hP.r.cell
            have hrf := hP.r.frz
            have hrl := hP.r.lt
            have hc1 : (bs.length : Int) < (p : Int) + 9 := by omega
            clear hP hlc
            go_wp2_with fail
            obtain ⟨q0, q1, q2⟩ := cells3 (x := .slice none 0 0) (y := .int .i64 0) (z := .slice none 0 0) (hr 0) (hr 1) (hr 2)
            have hBB := below3 (x := .slice none 0 0) (y := .int .i64 0) (z := .slice none 0 0) PP.out.b (Nat.le_refl _)
            revert q0 q1 q2 hBB
            generalize ((wr.setCell ⟨w.heap.size, 0, none⟩ (.slice none 0 0)).setCell ⟨w.heap.size, 1, none⟩ (.int .i64 0)).setCell ⟨w.heap.size, 2, none⟩ (.slice none 0 0) = W'
            intro q0 q1 q2 hBB
            exact bodyPost_ret (v := .tuple #[.agg #[.slice none 0 0, .int .i64 0, .slice none 0 0], .int .i64 4]) (by simp [results, Try.results10, go_sem, q0, q1, q2]) rfl (par_bad HE.out (by decide) rfl hBB)
          · have hc1 : ¬ (bs.length : Int) < (p : Int) + 9 := by omega
            have hbr : b < wr.heap.size := Nat.lt_of_lt_of_le hbl hP.b.size
            have hW := (HS.out.below hP.b)
            have hrt := rdCh_ok (bs := bs) (at' := p) (by omega)
            have cA := by_cell hW (k := p + 8) (by omega)
            have hv4 := HBY.out.getD (p + 8)
            obtain ⟨tv, htv⟩ : ∃ s, bs.getD (p + 8) 0 = s := ⟨_, rfl⟩
            rw [htv] at cA hv4 hrt
            have l8 : ((bs.drop p).take 8).length = 8 := by rw [List.length_take, List.length_drop]; omega
            have bo := frB_all ((HBY.out.drop p).take 8)
            rw [l8] at bo
            have HA4 := Lib.hid (sl_part hW p 8)
            have HFB := Lib.hid (fun (W : World) (hb : Below w.heap.size wr W) => r_fromBytes (some ⟨b, o + p, none⟩) (cap - p) ((bs.drop p).take 8) W ((HA4.out.below hb).more (Nat.le_trans hP.b.size hb.size)) ((HBY.out.drop p).take 8) (by omega) (by omega) (by unfold maxLen; omega))
            obtain ⟨a, ha⟩ : ∃ a, frB ((bs.drop p).take 8) = a := ⟨_, rfl⟩
            rw [ha] at bo hrt HFB
            rw [l8] at HFB
            have hx0 : (0 : Int) ≤ (p : Int) := by omega
            have hx1 : (0 : Int) ≤ (p : Int) + 8 := by omega
            have hx2 : (p : Int) + 8 ≤ (cap : Int) := by omega
            have hx3 : (p : Int) ≤ (p : Int) + 8 := by omega
            have hx4 : (p : Int) + 8 < (bs.length : Int) := by omega
            have ht4 : ((p : Int) + 8).toNat = p + 8 := by omega
            have ht9 : p + 8 - p = 8 := by omega
            have wp4 : IntKind.i64.wrap ((p : Int) + 8) = (p : Int) + 8 := IntWalk.i64_in _ (by omega)
            have wp9 : IntKind.i64.wrap ((p : Int) + 9) = (p : Int) + 9 := IntWalk.i64_in _ (by omega)
            obtain ⟨v, hv⟩ : ∃ v, IntKind.u64.wrap (a + 9223372036854775808) = v := ⟨_, rfl⟩
            have hv2 : IntKind.i64.wrap v = a - 9223372036854775808 := by rw [← hv, IntKind.wrap_u64, IntKind.wrap_i64]; omega
            have hb2 : IntKind.i64.wrap tv = tv := IntWalk.i64_in _ (by omega)
            have HN2 := Lib.hid (show runC (k + 1) t0 = (cs ++ [(a - 9223372036854775808, tv)], (bs.drop (p + 9), false)) by rw [HN1.out, hrt])
            have hcp : ¬ cap = p := by omega
            have hadd : (⟨b, o, none⟩ : Addr).add p = ⟨b, o + p, none⟩ := by simp [Addr.add]
            clear hW hrt htv ha HN1 hP
            go_upto_region 19 with fail
            -- GEN19 BEGIN
            refine wp_region_noPanic ?_
            refine wp_region_held_drew (S := fun W' : World => Below w.heap.size wr W') (by kernel_rfl) (Below.refl _ _).drew (fun hHeld => ?_)
            have P0v := PP.out.drew
            obtain ⟨v0, hv0⟩ : ∃ x, wr.drew = x := ⟨_, rfl⟩
            rw [hv0] at hHeld P0v ⊢
            clear hv0
            have hzv : w.heap.size ≤ v0.heap.size := P0v.b.size
            refine wpAnyH_take (i := 0) (v := ?_) rfl (by kernel_rfl) (by kernel_rfl) (by kernel_rfl) (fun _ _ _ h => h) (Or.inl ⟨by rfl, ?_⟩) hHeld ?_
            rotate_left
            · intro wq hSw
              go_simp
              try with_reducible rfl
            try simp only [Act.put, List.getElem_toArray, List.getElem_cons_succ, List.getElem_cons_zero, List.setIfInBounds_toArray, List.set_cons_zero, List.set_cons_succ]
            refine wpAnyH_take (i := 2) (v := ?_) rfl (by kernel_rfl) (by kernel_rfl) (by kernel_rfl) (fun _ _ _ h => h) (Or.inl ⟨by rfl, ?_⟩) hHeld ?_
            rotate_left
            · intro wq hSw
              go_simp
              try with_reducible rfl
            try simp only [Act.put, List.getElem_toArray, List.getElem_cons_succ, List.getElem_cons_zero, List.setIfInBounds_toArray, List.set_cons_zero, List.set_cons_succ]
            refine wpAnyH_take (i := 3) (v := ?_) rfl (by kernel_rfl) (by kernel_rfl) (by kernel_rfl) (fun _ _ _ h => h) (Or.inl ⟨by rfl, ?_⟩) hHeld ?_
            rotate_left
            · intro wq hSw
              go_simp
              try with_reducible rfl
            try simp only [Act.put, List.getElem_toArray, List.getElem_cons_succ, List.getElem_cons_zero, List.setIfInBounds_toArray, List.set_cons_zero, List.set_cons_succ]
            refine wpAnyH_take (i := 4) (v := ?_) rfl (by kernel_rfl) (by kernel_rfl) (by kernel_rfl) (fun _ _ _ h => h) (Or.inl ⟨by rfl, ?_⟩) hHeld ?_
            rotate_left
            · intro wq hSw
              go_simp
              try with_reducible rfl
            try simp only [Act.put, List.getElem_toArray, List.getElem_cons_succ, List.getElem_cons_zero, List.setIfInBounds_toArray, List.set_cons_zero, List.set_cons_succ]
            refine wpAnyH_take (i := 5) (v := ?_) rfl (by kernel_rfl) (by kernel_rfl) (by kernel_rfl) (fun _ _ _ h => h) (Or.inl ⟨by rfl, ?_⟩) hHeld ?_
            rotate_left
            · intro wq hSw
              go_simp
              try with_reducible rfl
            try simp only [Act.put, List.getElem_toArray, List.getElem_cons_succ, List.getElem_cons_zero, List.setIfInBounds_toArray, List.set_cons_zero, List.set_cons_succ]
            refine wpAnyH_take (i := 6) (v := ?_) rfl (by kernel_rfl) (by kernel_rfl) (by kernel_rfl) (fun _ _ _ h => h) (Or.inl ⟨by rfl, ?_⟩) hHeld ?_
            rotate_left
            · intro wq hSw
              go_simp
              try with_reducible rfl
            try simp only [Act.put, List.getElem_toArray, List.getElem_cons_succ, List.getElem_cons_zero, List.setIfInBounds_toArray, List.set_cons_zero, List.set_cons_succ]
            refine wpAnyH_take (i := 10) (v := ?_) rfl (by kernel_rfl) (by kernel_rfl) (by kernel_rfl) (fun _ _ _ h => h) (Or.inl ⟨by rfl, ?_⟩) hHeld ?_
            rotate_left
            · intro wq hSw
              go_simp
              try with_reducible rfl
            try simp only [Act.put, List.getElem_toArray, List.getElem_cons_succ, List.getElem_cons_zero, List.setIfInBounds_toArray, List.set_cons_zero, List.set_cons_succ]
            refine wpAnyH_take (i := 11) (v := ?_) rfl (by kernel_rfl) (by kernel_rfl) (by kernel_rfl) (fun _ _ _ h => h) (Or.inl ⟨by rfl, ?_⟩) hHeld ?_
            rotate_left
            · intro wq hSw
              go_simp
              try with_reducible rfl
            try simp only [Act.put, List.getElem_toArray, List.getElem_cons_succ, List.getElem_cons_zero, List.setIfInBounds_toArray, List.set_cons_zero, List.set_cons_succ]
            refine wpAnyH_take (i := 12) (v := ?_) rfl (by kernel_rfl) (by kernel_rfl) (by kernel_rfl) (fun _ _ _ h => h) (Or.inl ⟨by rfl, ?_⟩) hHeld ?_
            rotate_left
            · intro wq hSw
              go_simp
              try with_reducible rfl
            try simp only [Act.put, List.getElem_toArray, List.getElem_cons_succ, List.getElem_cons_zero, List.setIfInBounds_toArray, List.set_cons_zero, List.set_cons_succ]
            refine wpAnyH_take (i := 13) (v := ?_) rfl (by kernel_rfl) (by kernel_rfl) (by kernel_rfl) (fun _ _ _ h => h) (Or.inl ⟨by rfl, ?_⟩) hHeld ?_
            rotate_left
            · intro wq hSw
              go_simp
              try with_reducible rfl
            try simp only [Act.put, List.getElem_toArray, List.getElem_cons_succ, List.getElem_cons_zero, List.setIfInBounds_toArray, List.set_cons_zero, List.set_cons_succ]
            refine wpAnyH_take (i := 14) (v := ?_) rfl (by kernel_rfl) (by kernel_rfl) (by kernel_rfl) (fun _ _ _ h => h) (Or.inl ⟨by rfl, ?_⟩) hHeld ?_
            rotate_left
            · intro wq hSw
              have qA := (hSw.cell (p := ⟨b, o + (p + 8), none⟩) hbl).trans cA
              go_simp
              try with_reducible rfl
            try simp only [Act.put, List.getElem_toArray, List.getElem_cons_succ, List.getElem_cons_zero, List.setIfInBounds_toArray, List.set_cons_zero, List.set_cons_succ]
            refine wpAnyH_take (i := 15) (v := ?_) rfl (by kernel_rfl) (by kernel_rfl) (by kernel_rfl) (fun _ _ _ h => h) (Or.inl ⟨by rfl, ?_⟩) hHeld ?_
            rotate_left
            · intro wq hSw
              go_simp
              try with_reducible rfl
            try simp only [Act.put, List.getElem_toArray, List.getElem_cons_succ, List.getElem_cons_zero, List.setIfInBounds_toArray, List.set_cons_zero, List.set_cons_succ]
            refine wpAnyH_ready (rs := [1, 7]) (by kernel_rfl) (by simp) ?_
            refine AllReadyH.cons rfl (fun K hK => ?_) ?_
            · skip
              have q1 := P0v.mb.cell 2
              go_simp
              refine hK.out _ _ hHeld (fun _ => ?_)
              clear hK K q1
              try simp only [Act.put, List.getElem_toArray, List.getElem_cons_succ, List.getElem_cons_zero, List.setIfInBounds_toArray, List.set_cons_zero, List.set_cons_succ]
              refine wpAnyH_ready (rs := [7]) (by kernel_rfl) (by simp) ?_
              refine AllReadyH.cons rfl (fun K hK => ?_) AllReadyH.nil
              go_simp
              go_at_call 24
              refine (HFB.out v0 hHeld).mono ?_
              rintro e w4 ⟨rfl, hw4⟩
              have hw4s := hw4.symm
              clear hw4
              subst hw4s
              try go_wp2_with fail
              refine hK.out _ _ hHeld (fun _ => ?_)
              clear hK K
              try simp only [Act.put, List.getElem_toArray, List.getElem_cons_succ, List.getElem_cons_zero, List.setIfInBounds_toArray, List.set_cons_zero, List.set_cons_succ]
              refine wpAnyH_take (i := 8) (v := ?_) rfl (by kernel_rfl) (by kernel_rfl) (by kernel_rfl) (fun _ _ _ h => h) (Or.inl ⟨by rfl, ?_⟩) hHeld ?_
              rotate_left
              · intro wq hSw
                go_simp
                try with_reducible rfl
              try simp only [Act.put, List.getElem_toArray, List.getElem_cons_succ, List.getElem_cons_zero, List.setIfInBounds_toArray, List.set_cons_zero, List.set_cons_succ]
              refine wpAnyH_take (i := 9) (v := ?_) rfl (by kernel_rfl) (by kernel_rfl) (by kernel_rfl) (fun _ _ _ h => h) (Or.inl ⟨by rfl, ?_⟩) hHeld ?_
              rotate_left
              · intro wq hSw
                go_simp
                try with_reducible rfl
              try simp only [Act.put, List.getElem_toArray, List.getElem_cons_succ, List.getElem_cons_zero, List.setIfInBounds_toArray, List.set_cons_zero, List.set_cons_succ]
              refine wpAnyH_take (i := 16) (v := ?_) rfl (by kernel_rfl) (by kernel_rfl) (by kernel_rfl) (fun _ _ _ h => h) (Or.inl ⟨by rfl, ?_⟩) hHeld ?_
              rotate_left
              · intro wq hSw
                go_simp
                try with_reducible rfl
              try simp only [Act.put, List.getElem_toArray, List.getElem_cons_succ, List.getElem_cons_zero, List.setIfInBounds_toArray, List.set_cons_zero, List.set_cons_succ]
              refine wpAnyH_ready (rs := [17]) (by kernel_rfl) (by simp) ?_
              refine AllReadyH.cons rfl (fun K hK => ?_) AllReadyH.nil
              go_simp
              refine hK.out _ _ (hHeld.alloc hzv _) (fun hHeld2 => ?_)
              clear hK K hHeld
              have hHeld := hHeld2
              clear hHeld2
              try simp only [Act.put, List.getElem_toArray, List.getElem_cons_succ, List.getElem_cons_zero, List.setIfInBounds_toArray, List.set_cons_zero, List.set_cons_succ]
              have P1 := P0v.alloc (.cells #[.int .i64 (a - 9223372036854775808), .int .i64 tv] 52)
              refine wpAnyH_ready (rs := [18]) (by kernel_rfl) (by simp) ?_
              refine AllReadyH.cons rfl (fun K hK => ?_) AllReadyH.nil
              refine step_append_lies _ (by rfl) _ _ _ (by rfl) w.heap.size 52 i1 _ 2 16 Try.underlying23 hi1 hy0 hy1 hy2 rfl (by omega) C cs.length _ (by rfl) P1.hC ⟨v0.heap.size, 0, none⟩ 1 1 (chCells (a - 9223372036854775808, tv)) (by rfl) (by rfl) (World.news_of_block (cs := (chCells (a - 9223372036854775808, tv)).toArray) (t := 52) (fr := (0, 0)) (heap_alloc_new v0 _)) (by simp [Value.oneCell', chCells]) (by omega) (by unfold maxLen; omega) (by omega) (by simp; omega) (v0.heap.size + 1) (by simp) ?_; intro gg cap2 w6 hown1 hgrow hat hlt6
              have hb6 := below_app (by have := P1.b.size; exact this) P1.hC hgrow
              have P6 := P1.appC hgrow hown1
              have hm6 := Blk.grown' hgrow P1.mb (P1.mb.own_ne P1.hC (by decide))
              refine hK.out _ _ (hHeld.trans hb6) (fun hHeld2 => ?_)
              clear hK K hHeld
              have hHeld := hHeld2
              clear hHeld2
              try simp only [Act.put, List.getElem_toArray, List.getElem_cons_succ, List.getElem_cons_zero, List.setIfInBounds_toArray, List.set_cons_zero, List.set_cons_succ]
              refine wpAnyH_take (i := 19) (v := ?_) rfl (by kernel_rfl) (by kernel_rfl) (by kernel_rfl) (fun _ _ _ h => h) (Or.inl ⟨by rfl, ?_⟩) hHeld ?_
              rotate_left
              · intro wq hSw
                go_simp
                try with_reducible rfl
              try simp only [Act.put, List.getElem_toArray, List.getElem_cons_succ, List.getElem_cons_zero, List.setIfInBounds_toArray, List.set_cons_zero, List.set_cons_succ]
              refine wpAnyH_ready (rs := [20]) (by kernel_rfl) (by simp) ?_
              refine AllReadyH.cons rfl (fun K hK => ?_) AllReadyH.nil
              have y0 := hm6.cell 2
              have y1 := hm6.frz 2
              have y2 := hm6.lt
              go_simp
              refine hK.out _ _ (hHeld.setCell (p := ⟨m, 2, none⟩) (Nat.le_of_lt P1.hm) _) (fun hF => ?_)
              have hF2 : Below w.heap.size wr _ := hF
              clear hK K y0 y1 y2 hHeld hF
              try simp only [Act.put, List.getElem_toArray, List.getElem_cons_succ, List.getElem_cons_zero, List.setIfInBounds_toArray, List.set_cons_zero, List.set_cons_succ]
              refine wpAnyH_done (by kernel_rfl) ?_ _
              refine NoPanic.normal ?_
              go_wp2_with fail
              exact ⟨⟨k + 1, p + 9, by omega, by go_num, by go_num, by omega, by rw [HN2.out], _, by rw [HN2.out]; exact P6⟩, by simp [intOf]; omega⟩
            refine AllReadyH.cons rfl (fun K hK => ?_) AllReadyH.nil
            go_simp
            go_at_call 24
            refine (HFB.out v0 hHeld).mono ?_
            rintro e w4 ⟨rfl, hw4⟩
            have hw4s := hw4.symm
            clear hw4
            subst hw4s
            try go_wp2_with fail
            refine hK.out _ _ hHeld (fun _ => ?_)
            clear hK K
            try simp only [Act.put, List.getElem_toArray, List.getElem_cons_succ, List.getElem_cons_zero, List.setIfInBounds_toArray, List.set_cons_zero, List.set_cons_succ]
            refine wpAnyH_take (i := 8) (v := ?_) rfl (by kernel_rfl) (by kernel_rfl) (by kernel_rfl) (fun _ _ _ h => h) (Or.inl ⟨by rfl, ?_⟩) hHeld ?_
            rotate_left
            · intro wq hSw
              go_simp
              try with_reducible rfl
            try simp only [Act.put, List.getElem_toArray, List.getElem_cons_succ, List.getElem_cons_zero, List.setIfInBounds_toArray, List.set_cons_zero, List.set_cons_succ]
            refine wpAnyH_take (i := 9) (v := ?_) rfl (by kernel_rfl) (by kernel_rfl) (by kernel_rfl) (fun _ _ _ h => h) (Or.inl ⟨by rfl, ?_⟩) hHeld ?_
            rotate_left
            · intro wq hSw
              go_simp
              try with_reducible rfl
            try simp only [Act.put, List.getElem_toArray, List.getElem_cons_succ, List.getElem_cons_zero, List.setIfInBounds_toArray, List.set_cons_zero, List.set_cons_succ]
            refine wpAnyH_take (i := 16) (v := ?_) rfl (by kernel_rfl) (by kernel_rfl) (by kernel_rfl) (fun _ _ _ h => h) (Or.inl ⟨by rfl, ?_⟩) hHeld ?_
            rotate_left
            · intro wq hSw
              go_simp
              try with_reducible rfl
            try simp only [Act.put, List.getElem_toArray, List.getElem_cons_succ, List.getElem_cons_zero, List.setIfInBounds_toArray, List.set_cons_zero, List.set_cons_succ]
            refine wpAnyH_ready (rs := [1, 17]) (by kernel_rfl) (by simp) ?_
            refine AllReadyH.cons rfl (fun K hK => ?_) ?_
            · skip
              have q1 := P0v.mb.cell 2
              go_simp
              refine hK.out _ _ hHeld (fun _ => ?_)
              clear hK K q1
              try simp only [Act.put, List.getElem_toArray, List.getElem_cons_succ, List.getElem_cons_zero, List.setIfInBounds_toArray, List.set_cons_zero, List.set_cons_succ]
              refine wpAnyH_ready (rs := [17]) (by kernel_rfl) (by simp) ?_
              refine AllReadyH.cons rfl (fun K hK => ?_) AllReadyH.nil
              go_simp
              refine hK.out _ _ (hHeld.alloc hzv _) (fun hHeld2 => ?_)
              clear hK K hHeld
              have hHeld := hHeld2
              clear hHeld2
              try simp only [Act.put, List.getElem_toArray, List.getElem_cons_succ, List.getElem_cons_zero, List.setIfInBounds_toArray, List.set_cons_zero, List.set_cons_succ]
              have P1 := P0v.alloc (.cells #[.int .i64 (a - 9223372036854775808), .int .i64 tv] 52)
              refine wpAnyH_ready (rs := [18]) (by kernel_rfl) (by simp) ?_
              refine AllReadyH.cons rfl (fun K hK => ?_) AllReadyH.nil
              refine step_append_lies _ (by rfl) _ _ _ (by rfl) w.heap.size 52 i1 _ 2 16 Try.underlying23 hi1 hy0 hy1 hy2 rfl (by omega) C cs.length _ (by rfl) P1.hC ⟨v0.heap.size, 0, none⟩ 1 1 (chCells (a - 9223372036854775808, tv)) (by rfl) (by rfl) (World.news_of_block (cs := (chCells (a - 9223372036854775808, tv)).toArray) (t := 52) (fr := (0, 0)) (heap_alloc_new v0 _)) (by simp [Value.oneCell', chCells]) (by omega) (by unfold maxLen; omega) (by omega) (by simp; omega) (v0.heap.size + 1) (by simp) ?_; intro gg cap2 w6 hown1 hgrow hat hlt6
              have hb6 := below_app (by have := P1.b.size; exact this) P1.hC hgrow
              have P6 := P1.appC hgrow hown1
              have hm6 := Blk.grown' hgrow P1.mb (P1.mb.own_ne P1.hC (by decide))
              refine hK.out _ _ (hHeld.trans hb6) (fun hHeld2 => ?_)
              clear hK K hHeld
              have hHeld := hHeld2
              clear hHeld2
              try simp only [Act.put, List.getElem_toArray, List.getElem_cons_succ, List.getElem_cons_zero, List.setIfInBounds_toArray, List.set_cons_zero, List.set_cons_succ]
              refine wpAnyH_take (i := 19) (v := ?_) rfl (by kernel_rfl) (by kernel_rfl) (by kernel_rfl) (fun _ _ _ h => h) (Or.inl ⟨by rfl, ?_⟩) hHeld ?_
              rotate_left
              · intro wq hSw
                go_simp
                try with_reducible rfl
              try simp only [Act.put, List.getElem_toArray, List.getElem_cons_succ, List.getElem_cons_zero, List.setIfInBounds_toArray, List.set_cons_zero, List.set_cons_succ]
              refine wpAnyH_ready (rs := [20]) (by kernel_rfl) (by simp) ?_
              refine AllReadyH.cons rfl (fun K hK => ?_) AllReadyH.nil
              have y0 := hm6.cell 2
              have y1 := hm6.frz 2
              have y2 := hm6.lt
              go_simp
              refine hK.out _ _ (hHeld.setCell (p := ⟨m, 2, none⟩) (Nat.le_of_lt P1.hm) _) (fun hF => ?_)
              have hF2 : Below w.heap.size wr _ := hF
              clear hK K y0 y1 y2 hHeld hF
              try simp only [Act.put, List.getElem_toArray, List.getElem_cons_succ, List.getElem_cons_zero, List.setIfInBounds_toArray, List.set_cons_zero, List.set_cons_succ]
              refine wpAnyH_done (by kernel_rfl) ?_ _
              refine NoPanic.normal ?_
              go_wp2_with fail
              exact ⟨⟨k + 1, p + 9, by omega, by go_num, by go_num, by omega, by rw [HN2.out], _, by rw [HN2.out]; exact P6⟩, by simp [intOf]; omega⟩
            refine AllReadyH.cons rfl (fun K hK => ?_) AllReadyH.nil
            go_simp
            refine hK.out _ _ (hHeld.alloc hzv _) (fun hHeld2 => ?_)
            clear hK K hHeld
            have hHeld := hHeld2
            clear hHeld2
            try simp only [Act.put, List.getElem_toArray, List.getElem_cons_succ, List.getElem_cons_zero, List.setIfInBounds_toArray, List.set_cons_zero, List.set_cons_succ]
            have P1 := P0v.alloc (.cells #[.int .i64 (a - 9223372036854775808), .int .i64 tv] 52)
            refine wpAnyH_ready (rs := [1]) (by kernel_rfl) (by simp) ?_
            refine AllReadyH.cons rfl (fun K hK => ?_) AllReadyH.nil
            have q1 := P1.mb.cell 2
            go_simp
            refine hK.out _ _ hHeld (fun _ => ?_)
            clear hK K q1
            try simp only [Act.put, List.getElem_toArray, List.getElem_cons_succ, List.getElem_cons_zero, List.setIfInBounds_toArray, List.set_cons_zero, List.set_cons_succ]
            refine wpAnyH_ready (rs := [18]) (by kernel_rfl) (by simp) ?_
            refine AllReadyH.cons rfl (fun K hK => ?_) AllReadyH.nil
            refine step_append_lies _ (by rfl) _ _ _ (by rfl) w.heap.size 52 i1 _ 2 16 Try.underlying23 hi1 hy0 hy1 hy2 rfl (by omega) C cs.length _ (by rfl) P1.hC ⟨v0.heap.size, 0, none⟩ 1 1 (chCells (a - 9223372036854775808, tv)) (by rfl) (by rfl) (World.news_of_block (cs := (chCells (a - 9223372036854775808, tv)).toArray) (t := 52) (fr := (0, 0)) (heap_alloc_new v0 _)) (by simp [Value.oneCell', chCells]) (by omega) (by unfold maxLen; omega) (by omega) (by simp; omega) (v0.heap.size + 1) (by simp) ?_; intro gg cap2 w6 hown1 hgrow hat hlt6
            have hb6 := below_app (by have := P1.b.size; exact this) P1.hC hgrow
            have P6 := P1.appC hgrow hown1
            have hm6 := Blk.grown' hgrow P1.mb (P1.mb.own_ne P1.hC (by decide))
            refine hK.out _ _ (hHeld.trans hb6) (fun hHeld2 => ?_)
            clear hK K hHeld
            have hHeld := hHeld2
            clear hHeld2
            try simp only [Act.put, List.getElem_toArray, List.getElem_cons_succ, List.getElem_cons_zero, List.setIfInBounds_toArray, List.set_cons_zero, List.set_cons_succ]
            refine wpAnyH_take (i := 19) (v := ?_) rfl (by kernel_rfl) (by kernel_rfl) (by kernel_rfl) (fun _ _ _ h => h) (Or.inl ⟨by rfl, ?_⟩) hHeld ?_
            rotate_left
            · intro wq hSw
              go_simp
              try with_reducible rfl
            try simp only [Act.put, List.getElem_toArray, List.getElem_cons_succ, List.getElem_cons_zero, List.setIfInBounds_toArray, List.set_cons_zero, List.set_cons_succ]
            refine wpAnyH_ready (rs := [20]) (by kernel_rfl) (by simp) ?_
            refine AllReadyH.cons rfl (fun K hK => ?_) AllReadyH.nil
            have y0 := hm6.cell 2
            have y1 := hm6.frz 2
            have y2 := hm6.lt
            go_simp
            refine hK.out _ _ (hHeld.setCell (p := ⟨m, 2, none⟩) (Nat.le_of_lt P1.hm) _) (fun hF => ?_)
            have hF2 : Below w.heap.size wr _ := hF
            clear hK K y0 y1 y2 hHeld hF
            try simp only [Act.put, List.getElem_toArray, List.getElem_cons_succ, List.getElem_cons_zero, List.setIfInBounds_toArray, List.set_cons_zero, List.set_cons_succ]
            refine wpAnyH_done (by kernel_rfl) ?_ _
            refine NoPanic.normal ?_
            go_wp2_with fail
            exact ⟨⟨k + 1, p + 9, by omega, by go_num, by go_num, by omega, by rw [HN2.out], _, by rw [HN2.out]; exact P6⟩, by simp [intOf]; omega⟩
            -- GEN19 END
        · obtain rfl : k = nC := by omega
          rw [← HT0.out, ← HP2.out] at hP hlc hst
          have HSH := Lib.hid (show (paC bs).2.2 = false by rw [hst])
          clear hst
          obtain ⟨cs, hcs⟩ : ∃ x, (paC bs).1 = x := ⟨_, rfl⟩
          rw [hcs] at hP hlc
          have HCS := Lib.hid hcs
          obtain ⟨A1, c1, A2, c2, rfl, rfl, HT⟩ := hP.tab HNM.out
          have hmc := hP.mb.cell
          by_cases h0 : tabE ts f cs = 0
          · have K := Lib.hid (tabOk h0)
            have H0 := Lib.hid h0
            have PP0 := Lib.hid hP
            have HT0 := Lib.hid HT
            clear h0 hP HT hcs
            go_wp2_with fail
            refine (r_Pack_ok _ _ _ _ _ _ _ _ HT0.out H0.out K.out).mono ?_
            rintro e w4 ⟨v, rfl, hO, hb4⟩
            have PP := Lib.hid (PP0.out.step hb4)
            have hmc4 := PP.out.mb.cell
            have hm4 := PP.out.mb.lt
            have hr := PP.out.r.cell
            have hrf := PP.out.r.frz
            have hrl := PP.out.r.lt
            obtain ⟨A3, cap3, rfl, g1, g2, hA3⟩ := own_inB hO
            have hv1 := sl_conv hA3 cap3
            have hv2 := sl_conv (HS.out.below PP.out.b) cap
            clear PP0 HT0 hmc hO hA3
            obtain ⟨L, hL⟩ : ∃ L, pkL ts f cs = L := ⟨_, rfl⟩
            rw [hL] at hv1
            rw [hL]
            cases heq : ((strOfNums L).toList == (strOfNums bs).toList) with
            | true =>
              have HE := Lib.hid (show paE bs = 0 by unfold paE; rw [if_neg (by omega), if_neg (by omega), if_neg (by rw [HSH.out]; decide), if_pos (by rw [HTS.out, HF.out, HCS.out, hL]; exact ⟨H0.out, beq_iff_eq.1 heq⟩)])
              have hne : ((strOfNums L).toList != (strOfNums bs).toList) = false := by rw [bne, heq]; rfl
              clear hL
              go_wp2_with fail
              obtain ⟨q0, q1, q2⟩ := cells3 (x := .slice A1 ts.length c1) (y := .int .i64 f) (z := .slice A2 cs.length c2) (hr 0) (hr 1) (hr 2)
              have hBB := below3 (x := .slice A1 ts.length c1) (y := .int .i64 f) (z := .slice A2 cs.length c2) PP.out.b (Nat.le_refl _)
              have hTT := PP.out.fin HNM.out (.slice A1 ts.length c1) (.int .i64 f) (.slice A2 cs.length c2)
              revert q0 q1 q2 hBB hTT
              generalize ((w4.setCell ⟨w.heap.size, 0, none⟩ (.slice A1 ts.length c1)).setCell ⟨w.heap.size, 1, none⟩ (.int .i64 f)).setCell ⟨w.heap.size, 2, none⟩ (.slice A2 cs.length c2) = W'
              intro q0 q1 q2 hBB hTT
              exact bodyPost_ret (v := .tuple #[.agg #[.slice A1 ts.length c1, .int .i64 f, .slice A2 cs.length c2], .int .i64 0]) (by simp [results, Try.results10, go_sem, q0, q1, q2]) rfl (par_ok HE.out (by rw [HTS.out, HF.out, HCS.out]) (by rw [HTS.out, HCS.out]; exact hTT) hBB)
            | false =>
              have HE := Lib.hid (show paE bs = 5 by unfold paE; rw [if_neg (by omega), if_neg (by omega), if_neg (by rw [HSH.out]; decide), if_neg (by rw [HTS.out, HF.out, HCS.out, hL]; exact fun e => by rw [e.2, beq_self_eq_true] at heq; cases heq)])
              have hne : ((strOfNums L).toList != (strOfNums bs).toList) = true := by rw [bne, heq]; rfl
              clear hL
              go_wp2_with fail
              obtain ⟨q0, q1, q2⟩ := cells3 (x := .slice none 0 0) (y := .int .i64 0) (z := .slice none 0 0) (hr 0) (hr 1) (hr 2)
              have hBB := below3 (x := .slice none 0 0) (y := .int .i64 0) (z := .slice none 0 0) PP.out.b (Nat.le_refl _)
              revert q0 q1 q2 hBB
              generalize ((w4.setCell ⟨w.heap.size, 0, none⟩ (.slice none 0 0)).setCell ⟨w.heap.size, 1, none⟩ (.int .i64 0)).setCell ⟨w.heap.size, 2, none⟩ (.slice none 0 0) = W'
              intro q0 q1 q2 hBB
              exact bodyPost_ret (v := .tuple #[.agg #[.slice none 0 0, .int .i64 0, .slice none 0 0], .int .i64 5]) (by simp [results, Try.results10, go_sem, q0, q1, q2]) rfl (par_bad HE.out (by decide) rfl hBB)
          · have HE := Lib.hid (show paE bs = 5 by unfold paE; rw [if_neg (by omega), if_neg (by omega), if_neg (by rw [HSH.out]; decide), if_neg (by rw [HTS.out, HF.out, HCS.out]; exact fun e => h0 e.1)])
            have hne : (tabE ts f cs != 0) = true := by rw [bne_iff_ne]; exact h0
            have H0 := Lib.hid h0
            have PP0 := Lib.hid hP
            have HT0 := Lib.hid HT
            clear h0 hP HT hcs
            go_wp2_with fail
            refine (r_Pack_bad _ _ _ _ _ _ _ _ HT0.out H0.out).mono ?_
            rintro e w4 ⟨rfl, hb4⟩
            have PP := Lib.hid (PP0.out.step hb4)
            have hr := PP.out.r.cell
            have hrf := PP.out.r.frz
            have hrl := PP.out.r.lt
            clear PP0 HT0 hmc
            go_wp2_with fail
            obtain ⟨q0, q1, q2⟩ := cells3 (x := .slice none 0 0) (y := .int .i64 0) (z := .slice none 0 0) (hr 0) (hr 1) (hr 2)
            have hBB := below3 (x := .slice none 0 0) (y := .int .i64 0) (z := .slice none 0 0) PP.out.b (Nat.le_refl _)
            revert q0 q1 q2 hBB
            generalize ((w4.setCell ⟨w.heap.size, 0, none⟩ (.slice none 0 0)).setCell ⟨w.heap.size, 1, none⟩ (.int .i64 0)).setCell ⟨w.heap.size, 2, none⟩ (.slice none 0 0) = W'
            intro q0 q1 q2 hBB
            exact bodyPost_ret (v := .tuple #[.agg #[.slice none 0 0, .int .i64 0, .slice none 0 0], .int .i64 5]) (by simp [results, Try.results10, go_sem, q0, q1, q2]) rfl (par_bad HE.out (by decide) rfl hBB)
theorem r_Parse (A : Option Addr) (cap : Nat) (bs : List Int) (w : World) (hS : SlAt w w.heap.size 1 A (bs.map byCells)) (hb : Byt bs) (h1 : bs.length ≤ cap) (h2 : cap ≤ maxLen) :
    Calls Try.prog 10 #[.slice A bs.length cap] w (ParPost bs w) := by
  by_cases h : 20000 < bs.length ∨ bs.length < 8
  · exact r_Parse_size A cap bs w h1 h2 h
  · exact r_Parse_main A cap bs w hS hb (by omega) (by omega) h1 h2
end Go.Proofs.Ytcoapllgpjjbcaa
