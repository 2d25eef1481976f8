/- Walk of pack.Parse. -/
import Derived.Test.YtcoapllgpjjbcaaPqB
namespace Go.Proofs.Ytcoapllgpjjbcaa
open Go.RowKit
set_option linter.unusedVariables false
attribute [local go_sem ↓] Go.wp_at_zero Go.wp_at_succ
set_option maxRecDepth 100000 in
set_option maxHeartbeats 2000000 in
theorem p_Parse_size (A : Option Addr) (cap : Nat) (bs : List Int) (w : World) (h1 : bs.length ≤ cap) (h2 : cap ≤ maxLen) (h : 20000 < bs.length ∨ bs.length < 8) :
    Calls Try.prog 8 #[.slice A bs.length cap] w (ParPost bs w) := by
  unfold maxLen at h2
  have hb : Below w.heap.size w (w.alloc (.cells #[.slice none 0 0, .int .i64 0, .slice none 0 0] 25)) := (by repeat (first | exact Below.refl _ _ | assumption | apply Below.drew | apply below_drewN | (refine Below.alloc ?_ (by simp; try omega) _) | (refine Below.setCell ?_ (by simp; try omega) _)))
  by_cases hl : 20000 < bs.length
  · have HE := Lib.hid (show paE bs = 2 by unfold paE; rw [if_pos hl])
    go_enter Try.func8, Try.ntmps8
    go_wp2_with fail
    exact bodyPost_ret (v := .tuple #[.agg #[.slice none 0 0, .int .i64 0, .slice none 0 0], .int .i64 2]) (by simp [results, Try.results8, go_sem]) rfl (par_bad HE.out (by decide) rfl hb)
  · have HE := Lib.hid (show paE bs = 4 by unfold paE; rw [if_neg hl, if_pos (by omega)])
    have h8 : bs.length < 8 := by omega
    clear h
    go_enter Try.func8, Try.ntmps8
    go_wp2_with fail
    exact bodyPost_ret (v := .tuple #[.agg #[.slice none 0 0, .int .i64 0, .slice none 0 0], .int .i64 4]) (by simp [results, Try.results8, go_sem]) rfl (par_bad HE.out (by decide) rfl hb)
theorem rdTy_eq (s : RS) : rdTy s = (((rdM s 4).1 - 2147483648, decide ((rdM (rdM s 4).2 1).1 = 1), Go.strOfNums (rdB (rdM (rdM (rdM s 4).2 1).2 1).2 (rdM (rdM (rdM s 4).2 1).2 1).1.toNat).1), (rdB (rdM (rdM (rdM s 4).2 1).2 1).2 (rdM (rdM (rdM s 4).2 1).2 1).1.toNat).2) := rfl
structure PaH (w W : World) (g : Nat) (s : RS) : Prop where
  r : Blk W w.heap.size 25 #[.slice none 0 0, .int .i64 0, .slice none 0 0]
  rd : RdAt W w.heap.size g s
  b : Below w.heap.size w W
theorem PaH.rdk {w W W2 : World} {g : Nat} {s s2 : RS} (h : PaH w W g s) (hr : RdAt W2 w.heap.size g s2) (hk : RdK w.heap.size g W W2) : PaH w W2 g s2 := by
  obtain ⟨A, cap, kb⟩ := h.rd.blk
  exact ⟨hk.blk h.r (h.r.ne kb (by decide)), hr, h.b.trans hk.1⟩
theorem PaH.step {w W W2 : World} {g : Nat} {s : RS} (h : PaH w W g s) (hb : Below W.heap.size W W2) : PaH w W2 g s := ⟨h.r.step hb, h.rd.step hb, h.b.trans (hb.mono h.b.size)⟩
theorem PaH.start (w : World) (b o : Nat) (cap : Nat) (l : List Int) (hS : SlAt w w.heap.size 1 (some ⟨b, o, none⟩) (l.map byCells)) (hb : Byt l) (h1 : l.length ≤ cap) (h2 : cap ≤ maxLen) :
    PaH w ((w.alloc (.cells #[.slice none 0 0, .int .i64 0, .slice none 0 0] 25)).alloc (.cells #[.slice (some ⟨b, o, none⟩) l.length cap, .bool false] 56)) (w.heap.size + 1) (l, false) := by
  have hB : Below w.heap.size w ((w.alloc (.cells #[.slice none 0 0, .int .i64 0, .slice none 0 0] 25)).alloc (.cells #[.slice (some ⟨b, o, none⟩) l.length cap, .bool false] 56)) := ((Below.refl _ _).alloc (Nat.le_refl _) _).alloc (by simp) _
  exact ⟨(Blk.new w _ _).alloc _, ⟨by simp, hb, _, _, Blk.new' _ _ _ (by simp), h1, h2, hS.below hB, fun h => by cases h⟩, hB⟩
set_option maxRecDepth 100000 in
set_option maxHeartbeats 8000000 in
theorem p_Parse_main (A : Option Addr) (cap : Nat) (bs : List Int) (w : World) (hS : SlAt w w.heap.size 1 A (bs.map byCells)) (hb : Byt bs) (h8 : 8 ≤ bs.length) (h20 : bs.length ≤ 20000) (h1 : bs.length ≤ cap) (h2 : cap ≤ maxLen) :
    Calls Try.prog 8 #[.slice A bs.length cap] w (ParPost bs w) := by
  unfold maxLen at h2
  obtain ⟨i0, hi0, hz0, hz1, hz2⟩ := info_parts info_Type
  obtain ⟨i1, hi1, hy0, hy1, hy2⟩ := info_parts info_Change
  obtain ⟨b, o, rfl, hbl, _⟩ := hS (by rw [List.length_map]; omega)
  have hc4 : ¬ cap = 4 := by omega
  have hadd : (⟨b, o, none⟩ : Addr).add 4 = ⟨b, o + 4, none⟩ := by simp [Addr.add]
  have HS4 := Lib.hid (sl_drop hS 4)
  have HBY := Lib.hid hb
  have HS := Lib.hid hS
  have hd4 : (bs.drop 4).length = bs.length - 4 := List.length_drop
  have X0 := Lib.hid (PaH.start w b (o + 4) (cap - 4) (bs.drop 4) HS4.out (hb.drop 4) (by omega) (by unfold maxLen; omega))
  rw [hd4] at X0
  have e1 : rdM (bs.drop 4, false) 1 = (bs.getD 4 0, (bs.drop 5, false)) := by rw [rdM_1 (by omega), getD_drop, List.drop_drop]
  have l5 : (bs.drop 5).length = bs.length - 5 := List.length_drop
  have e2 : rdM (bs.drop 5, false) 1 = (bs.getD 5 0, (bs.drop 6, false)) := by rw [rdM_1 (by omega), getD_drop, List.drop_drop]
  have l6 : (bs.drop 6).length = bs.length - 6 := List.length_drop
  have e3 : rdM (bs.drop 6, false) 2 = (frB ((bs.drop 6).take 2), (bs.drop 8, false)) := by simp only [rdM]; rw [rdB_ok (by omega), List.drop_drop]
  have b4 := hb.getD 4
  have b5 := hb.getD 5
  have b6 := rdM_bd (s := (bs.drop 6, false)) (hb.drop 6) 2
  rw [e3] at b6
  have E1 := Lib.hid e1
  have E2 := Lib.hid e2
  have E3 := Lib.hid e3
  have HP1 := Lib.hid (show paT bs = runT (bs.getD 4 0).toNat (bs.drop 8, false) from rfl)
  have HP2 := Lib.hid (show paC bs = runC (frB ((bs.drop 6).take 2)).toNat (paT bs).2 from rfl)
  have HB8 := Lib.hid (show Byt ((bs.drop 8, false) : RS).1 from hb.drop 8)
  obtain ⟨f, hf⟩ : ∃ f, bs.getD 5 0 = f := ⟨_, rfl⟩
  have HF := Lib.hid hf
  rw [hf] at b5 E2
  obtain ⟨nT, hnT⟩ : ∃ n : Nat, bs.getD 4 0 = n := ⟨(bs.getD 4 0).toNat, by omega⟩
  rw [hnT] at b4 E1 HP1
  obtain ⟨nC, hnC⟩ : ∃ n : Nat, frB ((bs.drop 6).take 2) = n := ⟨(frB ((bs.drop 6).take 2)).toNat, by simp only at b6; omega⟩
  rw [hnC] at b6 E3 HP2
  simp only [Int.toNat_natCast] at HP1 HP2
  have w4 : IntKind.i64.wrap (nT : Int) = nT := IntWalk.i64_in _ (by omega)
  have w5 : IntKind.i64.wrap f = f := IntWalk.i64_in _ (by omega)
  have w6 : IntKind.i64.wrap (nC : Int) = nC := IntWalk.i64_in _ (by simp only at b6; omega)
  clear hS hb e1 e2 e3 l5 l6 hf hnT hnC hd4 HS4
  go_enter Try.func8, Try.ntmps8
  go_wp2_with fail
  refine (p_num1 _ _ _ _ X0.out.rd).mono ?_
  rintro e w1 ⟨rfl, hR, hk⟩
  rw [E1.out] at hR ⊢
  have X1 := Lib.hid (X0.out.rdk hR hk)
  clear X0 hR hk
  go_wp2_with fail
  refine (p_num1 _ _ _ _ X1.out.rd).mono ?_
  rintro e w2 ⟨rfl, hR, hk⟩
  rw [E2.out] at hR ⊢
  have X2 := Lib.hid (X1.out.rdk hR hk)
  clear X1 hR hk
  go_wp2_with fail
  have hzw : w.heap.size < w2.heap.size := X2.out.r.lt
  have P2 := Lib.hid (show PaS w (w2.alloc (.cells #[.slice none 0 0, .int .i64 f, .slice none 0 0] 25)) (w.heap.size + 1) w2.heap.size (.slice none 0 0) (.slice none 0 0) f [] [] (bs.drop 6, false) from
    (let Y := X2.out.step ((Below.refl _ _).alloc (Nat.le_refl _) (.cells #[.slice none 0 0, .int .i64 f, .slice none 0 0] 25)); ⟨Y.r, Y.rd, Blk.new _ _ _, hzw, World.ownsRow_nil _ _ _ _, World.ownsRow_nil _ _ _ _, Y.b⟩))
  refine (p_num2 _ _ _ _ P2.out.rd).mono ?_
  rintro e w3 ⟨rfl, hR, hk⟩
  rw [E3.out] at hR ⊢
  obtain ⟨m, hm⟩ : ∃ m, w2.heap.size = m := ⟨_, rfl⟩
  obtain ⟨g, hg⟩ : ∃ g, w.heap.size + 1 = g := ⟨_, rfl⟩
  have P3 := P2.out.rdk hR hk
  rw [hm, hg] at P3 ⊢
  have PP3 := Lib.hid P3
  clear X2 P2 hR hk E1 E2 E3 P3 hm hg hzw h1 hc4 hadd
  obtain ⟨s0, hs0⟩ : ∃ s : RS, s = (bs.drop 8, false) := ⟨_, rfl⟩
  rw [← hs0] at PP3 HP1
  have HB0 := Lib.hid (show Byt s0.1 by rw [hs0]; exact HB8.out)
  clear hs0 HB8
  go_wp2_with fail
  go_loopw [36] (fun i wr => ∃ k : Nat, k ≤ nT ∧ i = .int .i64 k ∧ ∃ T, PaS w wr g m T (.slice none 0 0) f (runT k s0).1 [] (runT k s0).2) (fun i _ => nT - (intOf i).toNat)
  case atStart => exact ⟨0, Nat.zero_le _, rfl, _, PP3.out⟩
  case round =>
    obtain ⟨k, hk, rfl, T, hP⟩ := hrel
    have hbt := runT_byt HB0.out k
    have hlen := runT_len s0 k
    clear PP3
    by_cases hlt : k < nT
    · have hn1 : runT (k + 1) s0 = ((runT k s0).1 ++ [(rdTy (runT k s0).2).1], (rdTy (runT k s0).2).2) := rfl
      obtain ⟨ts, hts⟩ : ∃ x, (runT k s0).1 = x := ⟨_, rfl⟩
      obtain ⟨s, hs⟩ : ∃ x, (runT k s0).2 = x := ⟨_, rfl⟩
      rw [hts, hs] at hP hn1
      rw [hts] at hlen
      rw [hs] at hbt
      rw [rdTy_eq s] at hn1
      have ba := rdM_bd hbt 4
      have ta := rdM_byt hbt 4
      obtain ⟨s1, hs1⟩ : ∃ x, (rdM s 4).2 = x := ⟨_, rfl⟩
      obtain ⟨a, ha⟩ : ∃ x, (rdM s 4).1 = x := ⟨_, rfl⟩
      have A1 := Lib.hid (show rdM s 4 = (a, s1) by rw [← hs1, ← ha])
      rw [hs1, ha] at hn1
      rw [hs1] at ta
      rw [ha] at ba
      have bb := rdM_bd ta 1
      have tb := rdM_byt ta 1
      obtain ⟨s2, hs2⟩ : ∃ x, (rdM s1 1).2 = x := ⟨_, rfl⟩
      obtain ⟨b1, hb1⟩ : ∃ x, (rdM s1 1).1 = x := ⟨_, rfl⟩
      have A2 := Lib.hid (show rdM s1 1 = (b1, s2) by rw [← hs2, ← hb1])
      rw [hs2, hb1] at hn1
      rw [hs2] at tb
      rw [hb1] at bb
      have bc := rdM_bd tb 1
      have tc := rdM_byt tb 1
      obtain ⟨s3, hs3⟩ : ∃ x, (rdM s2 1).2 = x := ⟨_, rfl⟩
      obtain ⟨c, hc⟩ : ∃ x, (rdM s2 1).1 = x := ⟨_, rfl⟩
      have A3 := Lib.hid (show rdM s2 1 = (c, s3) by rw [← hs3, ← hc])
      rw [hs3, hc] at hn1
      rw [hs3] at tc
      rw [hc] at bc
      obtain ⟨nn, rfl⟩ : ∃ n : Nat, c = n := ⟨c.toNat, by omega⟩
      rw [Int.toNat_natCast] at hn1
      have hdl := rdB_len s3 nn
      obtain ⟨s4, hs4⟩ : ∃ x, (rdB s3 nn).2 = x := ⟨_, rfl⟩
      obtain ⟨d, hd⟩ : ∃ x, (rdB s3 nn).1 = x := ⟨_, rfl⟩
      rw [hs4, hd] at hn1
      rw [hd] at hdl
      have A4 := Lib.hid (show rdB s3 nn = (d, s4) by rw [← hs4, ← hd])
      have HN1 := Lib.hid hn1
      have HDL := Lib.hid hdl
      have wa : IntKind.i64.wrap a = a := IntWalk.i64_in _ (by omega)
      have wa2 : IntKind.i64.wrap (a - 2147483648) = a - 2147483648 := IntWalk.i64_in _ (by omega)
      have wc : IntKind.i64.wrap (nn : Int) = nn := IntWalk.i64_in _ (by omega)
      obtain ⟨q, hq⟩ : ∃ q, decide (b1 = 1) = q := ⟨_, rfl⟩
      have hq2 : (b1 == 1) = q := by rw [← hq]; by_cases h : b1 = 1 <;> simp [h]
      have HQ := Lib.hid hq
      have PP := Lib.hid hP
      clear hn1 hts hs hs1 ha hs2 hb1 hs3 hc hs4 hd hbt ta tb tc hP hdl hq
      go_wp2_with fail
      refine (p_num4 _ _ _ _ PP.out.rd).mono ?_
      rintro e w4 ⟨rfl, hR, hk4⟩
      rw [A1.out] at hR ⊢
      have P4 := Lib.hid (PP.out.rdk hR hk4)
      clear hR hk4 PP
      go_wp2_with fail
      refine (p_num1 _ _ _ _ P4.out.rd).mono ?_
      rintro e w5 ⟨rfl, hR, hk5⟩
      rw [A2.out] at hR ⊢
      have P5 := Lib.hid (P4.out.rdk hR hk5)
      clear hR hk5 P4
      go_wp2_with fail
      have hTx : T.ownBlock ≠ some w5.heap.size := fun e => absurd (P5.out.hT.lt _ e).2 (by omega)
      have hwx : w.heap.size ≤ w5.heap.size := P5.out.b.size
      have kx5 := Blk.new w5 #[.int .i64 (a - 2147483648), .bool q, .string ⟨#[]⟩] 50
      obtain ⟨x, hxe⟩ : ∃ x, w5.heap.size = x := ⟨_, rfl⟩
      have P5a := P5.out.alloc (.cells #[.int .i64 (a - 2147483648), .bool q, .string ⟨#[]⟩] 50)
      rw [hxe] at hTx hwx kx5 ⊢
      clear P5
      refine (p_num1 _ _ _ _ P5a.rd).mono ?_
      rintro e w6 ⟨rfl, hR, hk6⟩
      rw [A3.out] at hR ⊢
      have P6 := Lib.hid (P5a.rdk hR hk6)
      have kx6 := P5a.kept hk6 kx5 (by decide)
      clear hR hk6 P5a kx5 hxe
      go_wp2_with fail
      refine (p_bytes _ _ nn _ _ P6.out.rd (by omega)).mono ?_
      rintro e w7 ⟨A', cap', rfl, hn1, hn2, hS7, hR, hk7⟩
      rw [A4.out] at hR hS7
      have P7 := P6.out.rdk hR hk7
      have kx7 := P6.out.kept hk7 kx6 (by decide)
      have kxc := kx7.cell
      have kxf := kx7.frz
      have kxl := kx7.lt
      have hcv := sl_conv (B := w7.heap.size) (xs := d) (by simpa using hS7) cap'
      rw [HDL.out] at hcv
      have P8 := Lib.hid (P7.far (i := 2) kx7 hTx hwx (.string (strOfNums d)))
      have kx8 := kx7.set 2 (.string (strOfNums d))
      clear hR hk7 P6 kx6 hS7 P7 kx7
      go_upto_region 13 with fail
      clear hcv kxc kxf kxl
      revert P8 kx8
      generalize w7.setCell ⟨x, 2, none⟩ (.string (strOfNums d)) = W8
      intro P8 kx8
      have ky8 : Blk W8 x 50 #[.int .i64 (a - 2147483648), .bool q, .string (strOfNums d)] := kx8
      have kxc := ky8.cell
      have kmc := P8.out.mb.cell
      have hzz : w.heap.size ≤ W8.heap.size := P8.out.b.size
      clear kx8
      go_wp2_with (at_builtin; refine wpList_append_lies _ rfl _ _ _ rfl w.heap.size 50 i0 _ 3 32 Try.underlying22 hi0 hz0 hz1 hz2 rfl (by omega) T ts.length _ rfl (World.ownsRow.alloc P8.out.hT _) ⟨W8.heap.size, 0, none⟩ 1 1 (tyCells (a - 2147483648, q, strOfNums d)) rfl rfl (World.news_of_block (cs := (tyCells (a - 2147483648, q, strOfNums d)).toArray) (t := 50) (fr := (0, 0)) (heap_alloc_new W8 _)) (by simp [Value.oneCell', tyCells]) (by omega) (by unfold maxLen; omega) (by omega) (by simp; omega) (W8.heap.size + 1) (by simp) ?_; intro gg cap2 W9 hown hgrow hat hlt9; have hm9 := Blk.grown' hgrow (P8.out.mb.alloc _) (P8.out.mb.own_ne P8.out.hT (by decide)); have y0 := hm9.cell 0; have y1 := hm9.frz 0; have y2 := hm9.lt; clear hm9)
      have P9 := (P8.out.alloc _).appT hgrow hown
      rw [hlen] at P9
      exact ⟨⟨k + 1, by omega, by go_num, _, by rw [HN1.out, HQ.out]; exact P9⟩, by simp [intOf]; omega⟩
    · obtain rfl : k = nT := by omega
      rw [← HP1.out] at hP hlen
      have PP := Lib.hid hP
      have HBT := Lib.hid (show Byt (paT bs).2.1 by rw [HP1.out]; exact hbt)
      have HNM := Lib.hid (show ∀ t ∈ (paT bs).1, t.2.2.size ≤ maxLen by rw [HP1.out]; exact runT_names HB0.out _)
      obtain ⟨ts, hts⟩ : ∃ x, (paT bs).1 = x := ⟨_, rfl⟩
      obtain ⟨t0, ht0⟩ : ∃ x, (paT bs).2 = x := ⟨_, rfl⟩
      rw [hts, ht0] at PP
      rw [hts] at hlen HNM
      rw [ht0] at HP2 HBT
      have HTS := Lib.hid hts
      clear hP hbt hts ht0 HP1 HB0 hlen
      go_wp2_with fail
      go_loopw [61] (fun i wr => ∃ k : Nat, k ≤ nC ∧ i = .int .i64 k ∧ ∃ C, PaS w wr g m T C f ts (runC k t0).1 (runC k t0).2) (fun i _ => nC - (intOf i).toNat)
      case atStart => exact ⟨0, Nat.zero_le _, rfl, _, PP.out⟩
      case round =>
        obtain ⟨k, hk, rfl, C, hP⟩ := hrel
        have hbt := runC_byt HBT.out k
        have hlc := runC_len t0 k
        clear PP
        by_cases hlt : k < nC
        · cases hsh : (runC k t0).2.2 with
          | true =>
            have P4 := hP
            obtain ⟨A', cap', kb⟩ := P4.rd.blk
            rw [hsh] at kb
            have kbc := kb.cell 1
            have HE := Lib.hid (show paE bs = 4 by unfold paE; rw [if_neg (by omega), if_neg (by omega), if_pos (by rw [HP2.out, runC_stop hsh (Nat.le_of_lt hlt)]; exact hsh)])
            have hr := P4.r.cell
            have hrf := P4.r.frz
            have hrl := P4.r.lt
            have PP := Lib.hid P4
            clear P4 hP hbt hsh
            go_wp2_with fail
            obtain ⟨q0, q1, q2⟩ := cells3 (x := .slice none 0 0) (y := .int .i64 0) (z := .slice none 0 0) (hr 0) (hr 1) (hr 2)
            have hBB := below3 (x := .slice none 0 0) (y := .int .i64 0) (z := .slice none 0 0) PP.out.b (Nat.le_refl _)
            revert q0 q1 q2 hBB
            generalize ((wr.setCell ⟨w.heap.size, 0, none⟩ (.slice none 0 0)).setCell ⟨w.heap.size, 1, none⟩ (.int .i64 0)).setCell ⟨w.heap.size, 2, none⟩ (.slice none 0 0) = W'
            intro q0 q1 q2 hBB
            exact bodyPost_ret (v := .tuple #[.agg #[.slice none 0 0, .int .i64 0, .slice none 0 0], .int .i64 4]) (by simp [results, Try.results8, go_sem, q0, q1, q2]) rfl (par_bad HE.out (by decide) rfl hBB)
          | false =>
            have hn1 : runC (k + 1) t0 = ((runC k t0).1 ++ [(rdCh (runC k t0).2).1], (rdCh (runC k t0).2).2) := by rw [runC, if_neg (by rw [hsh]; decide)]
            obtain ⟨A', cap', kb⟩ := hP.rd.blk
            rw [hsh] at kb
            have kbc := kb.cell 1
            obtain ⟨cs, hcs⟩ : ∃ x, (runC k t0).1 = x := ⟨_, rfl⟩
            obtain ⟨s, hs⟩ : ∃ x, (runC k t0).2 = x := ⟨_, rfl⟩
            rw [hcs, hs] at hP hn1
            rw [hcs] at hlc
            rw [hs] at hbt
            rw [show rdCh s = (((rdM s 8).1 - 9223372036854775808, (rdM (rdM s 8).2 1).1), (rdM (rdM s 8).2 1).2) from rfl] at hn1
            have ba := rdM_bd hbt 8
            have ta := rdM_byt hbt 8
            obtain ⟨s1, hs1⟩ : ∃ x, (rdM s 8).2 = x := ⟨_, rfl⟩
            obtain ⟨a, ha⟩ : ∃ x, (rdM s 8).1 = x := ⟨_, rfl⟩
            have A1 : rdM s 8 = (a, s1) := by rw [← hs1, ← ha]
            rw [hs1, ha] at hn1
            rw [hs1] at ta
            rw [ha] at ba
            have bb := rdM_bd ta 1
            obtain ⟨s2, hs2⟩ : ∃ x, (rdM s1 1).2 = x := ⟨_, rfl⟩
            obtain ⟨b1, hb1⟩ : ∃ x, (rdM s1 1).1 = x := ⟨_, rfl⟩
            have A2 : rdM s1 1 = (b1, s2) := by rw [← hs2, ← hb1]
            rw [hs2, hb1] at hn1
            rw [hb1] at bb
            have PA := Lib.hid (show Calls Try.prog 21 #[.pointer (some ⟨g, 0, none⟩), .int .i64 8] wr.drew fun e w' => e = .returned (.int .u64 a) ∧ RdAt w' w.heap.size g s1 ∧ RdK w.heap.size g wr.drew w' from by have := p_num8 _ _ _ _ hP.drew.rd; rw [A1] at this; exact this)
            have PB := Lib.hid (show ∀ W, RdAt W w.heap.size g s1 → Calls Try.prog 21 #[.pointer (some ⟨g, 0, none⟩), .int .i64 1] W fun e w' => e = .returned (.int .u64 b1) ∧ RdAt w' w.heap.size g s2 ∧ RdK w.heap.size g W w' from fun W hW => by have := p_num1 _ _ _ _ hW; rw [A2] at this; exact this)
            have HN1 := Lib.hid hn1
            obtain ⟨v, hv⟩ : ∃ v, IntKind.u64.wrap (a - 9223372036854775808) = v := ⟨_, rfl⟩
            have hv2 : IntKind.i64.wrap v = a - 9223372036854775808 := by rw [← hv, IntKind.wrap_u64, IntKind.wrap_i64]; omega
            have hb2 : IntKind.i64.wrap b1 = b1 := IntWalk.i64_in _ (by omega)
            have PP := Lib.hid hP
            have kmc := hP.mb.cell 2
            have kml := hP.mb.lt
            clear hn1 hcs hs hs1 ha hs2 hb1 hbt ta hP A1 A2 kb hsh
            go_upto_region 18 with fail
            clear kbc
            go_region_law (first
              | ((refine step_append_lies _ (by rfl) _ _ _ (by rfl) w.heap.size 52 i1 _ 2 16 Try.underlying23 hi1 hy0 hy1 hy2 rfl (by omega) C cs.length _ (by rfl) (World.ownsRow.alloc P5.hC _) ⟨w5.heap.size, 0, none⟩ 1 1 (chCells (a - 9223372036854775808, b1)) (by rfl) (by rfl) (World.news_of_block (cs := (chCells (a - 9223372036854775808, b1)).toArray) (t := 52) (fr := (0, 0)) (heap_alloc_new w5 _)) (by simp [Value.oneCell', chCells]) (by omega) (by unfold maxLen; omega) (by omega) (by have := P5.b.size; simp; omega) (w5.heap.size + 1) (by simp) ?_; intro gg cap2 w6 hown1 hgrow hat hlt; have hm6 := Blk.grown' hgrow (P5.mb.alloc _) (P5.mb.own_ne P5.hC (by decide)); have y0 := hm6.cell 2; have y1 := hm6.frz 2; clear hm6))
              | (go_simp; go_at_call 21; (with_reducible refine PA.out.mono ?_); rintro e w4 ⟨rfl, hR4, hk4⟩; have P4 := PP.out.drew.rdk hR4 hk4; have km4 := P4.mb.cell 2; have kl4 := P4.mb.lt)
              | (go_simp; go_at_call 21; (with_reducible refine (PB.out _ hR4).mono ?_); rintro e w5 ⟨rfl, hR5, hk5⟩; have P5 := P4.rdk hR5 hk5; have km5 := P5.mb.cell 2; have kl5 := P5.mb.lt))
            all_goals
              have P9 := (P5.alloc _).appC hgrow hown1
              clear y0 y1 km4 kl4 km5 kl5 hR4 hk4 hR5 hk5
              go_wp2_with fail
              exact ⟨⟨k + 1, by omega, by go_num, _, by rw [HN1.out]; exact P9⟩, by simp [intOf]; omega⟩
        · obtain rfl : k = nC := by omega
          rw [← HP2.out] at hP hlc hbt
          cases hsh : (paC bs).2.2 with
          | true =>
            have P4 := hP
            obtain ⟨A', cap', kb⟩ := P4.rd.blk
            rw [hsh] at kb
            have kbc := kb.cell 1
            have HE := Lib.hid (show paE bs = 4 by unfold paE; rw [if_neg (by omega), if_neg (by omega), if_pos hsh])
            have hr := P4.r.cell
            have hrf := P4.r.frz
            have hrl := P4.r.lt
            have PP := Lib.hid P4
            clear P4 hP hbt hsh
            go_wp2_with fail
            obtain ⟨q0, q1, q2⟩ := cells3 (x := .slice none 0 0) (y := .int .i64 0) (z := .slice none 0 0) (hr 0) (hr 1) (hr 2)
            have hBB := below3 (x := .slice none 0 0) (y := .int .i64 0) (z := .slice none 0 0) PP.out.b (Nat.le_refl _)
            revert q0 q1 q2 hBB
            generalize ((wr.setCell ⟨w.heap.size, 0, none⟩ (.slice none 0 0)).setCell ⟨w.heap.size, 1, none⟩ (.int .i64 0)).setCell ⟨w.heap.size, 2, none⟩ (.slice none 0 0) = W'
            intro q0 q1 q2 hBB
            exact bodyPost_ret (v := .tuple #[.agg #[.slice none 0 0, .int .i64 0, .slice none 0 0], .int .i64 4]) (by simp [results, Try.results8, go_sem, q0, q1, q2]) rfl (par_bad HE.out (by decide) rfl hBB)
          | false =>
            obtain ⟨A', cap', kb⟩ := hP.rd.blk
            rw [hsh] at kb
            have kbc := kb.cell 1
            have HSH := Lib.hid hsh
            clear hsh kb
            obtain ⟨cs, hcs⟩ : ∃ x, (paC bs).1 = x := ⟨_, rfl⟩
            rw [hcs] at hP hlc
            have HCS := Lib.hid hcs
            obtain ⟨A1, c1, A2, c2, rfl, rfl, HT⟩ := hP.tab HNM.out
            have hmc := hP.mb.cell
            by_cases h0 : tabE ts f cs = 0
            · have K := Lib.hid (tabOk h0)
              have hb1 := Lib.hid hP.b
              have H0 := Lib.hid h0
              have PP0 := Lib.hid hP
              have HT0 := Lib.hid HT
              clear h0 hP HT hcs
              go_wp2_with fail
              refine (p_Pack_ok _ _ _ _ _ _ _ _ HT0.out H0.out K.out).mono ?_
              rintro e w4 ⟨v, rfl, hO, hb4⟩
              have PP := Lib.hid (PP0.out.step hb4)
              have HT4 := Lib.hid (HT0.out.below hb4)
              have hmc4 := PP.out.mb.cell
              have hm4 := PP.out.mb.lt
              have hr := PP.out.r.cell
              have hrf := PP.out.r.frz
              have hrl := PP.out.r.lt
              obtain ⟨A3, cap3, rfl, g1, g2, hA3⟩ := own_inB hO
              have HA3 := Lib.hid hA3
              have HSb := Lib.hid ((HS.out.below PP.out.b).more PP.out.b.size)
              clear PP0 HT0 hmc hO hA3
              obtain ⟨L, hL⟩ : ∃ L, pkL ts f cs = L := ⟨_, rfl⟩
              rw [hL] at HA3
              rw [hL]
              cases heq : ((strOfNums L).toList == (strOfNums bs).toList) with
              | true =>
                have HE := Lib.hid (show paE bs = 0 by unfold paE; rw [if_neg (by omega), if_neg (by omega), if_neg (by rw [HSH.out]; decide), if_pos (by rw [HTS.out, HF.out, HCS.out, hL]; exact ⟨H0.out, beq_iff_eq.1 heq⟩)])
                have BE := Lib.hid (b_Equal A3 (some ⟨b, o, none⟩) cap3 cap L bs w4 HA3.out HSb.out)
                rw [heq] at BE
                clear heq hL
                go_wp2_with fail
                refine BE.out.mono ?_
                rintro e w5 ⟨rfl, rfl⟩
                go_wp2_with fail
                obtain ⟨q0, q1, q2⟩ := cells3 (x := .slice A1 ts.length c1) (y := .int .i64 f) (z := .slice A2 cs.length c2) (hr 0) (hr 1) (hr 2)
                have hBB := below3 (x := .slice A1 ts.length c1) (y := .int .i64 f) (z := .slice A2 cs.length c2) PP.out.b (Nat.le_refl _)
                have hTT := PP.out.fin HNM.out (.slice A1 ts.length c1) (.int .i64 f) (.slice A2 cs.length c2)
                revert q0 q1 q2 hBB hTT
                generalize ((w5.setCell ⟨w.heap.size, 0, none⟩ (.slice A1 ts.length c1)).setCell ⟨w.heap.size, 1, none⟩ (.int .i64 f)).setCell ⟨w.heap.size, 2, none⟩ (.slice A2 cs.length c2) = W'
                intro q0 q1 q2 hBB hTT
                exact bodyPost_ret (v := .tuple #[.agg #[.slice A1 ts.length c1, .int .i64 f, .slice A2 cs.length c2], .int .i64 0]) (by simp [results, Try.results8, go_sem, q0, q1, q2]) rfl (par_ok HE.out (by rw [HTS.out, HF.out, HCS.out]) (by rw [HTS.out, HCS.out]; exact hTT) hBB)
              | false =>
                have HE := Lib.hid (show paE bs = 5 by unfold paE; rw [if_neg (by omega), if_neg (by omega), if_neg (by rw [HSH.out]; decide), if_neg (by rw [HTS.out, HF.out, HCS.out, hL]; exact fun e => by rw [e.2, beq_self_eq_true] at heq; cases heq)])
                have BE := Lib.hid (b_Equal A3 (some ⟨b, o, none⟩) cap3 cap L bs w4 HA3.out HSb.out)
                rw [heq] at BE
                clear heq hL
                go_wp2_with fail
                refine BE.out.mono ?_
                rintro e w5 ⟨rfl, rfl⟩
                go_wp2_with fail
                obtain ⟨q0, q1, q2⟩ := cells3 (x := .slice none 0 0) (y := .int .i64 0) (z := .slice none 0 0) (hr 0) (hr 1) (hr 2)
                have hBB := below3 (x := .slice none 0 0) (y := .int .i64 0) (z := .slice none 0 0) PP.out.b (Nat.le_refl _)
                revert q0 q1 q2 hBB
                generalize ((w5.setCell ⟨w.heap.size, 0, none⟩ (.slice none 0 0)).setCell ⟨w.heap.size, 1, none⟩ (.int .i64 0)).setCell ⟨w.heap.size, 2, none⟩ (.slice none 0 0) = W'
                intro q0 q1 q2 hBB
                exact bodyPost_ret (v := .tuple #[.agg #[.slice none 0 0, .int .i64 0, .slice none 0 0], .int .i64 5]) (by simp [results, Try.results8, go_sem, q0, q1, q2]) rfl (par_bad HE.out (by decide) rfl hBB)
            · have HE := Lib.hid (show paE bs = 5 by unfold paE; rw [if_neg (by omega), if_neg (by omega), if_neg (by rw [HSH.out]; decide), if_neg (by rw [HTS.out, HF.out, HCS.out]; exact fun e => h0 e.1)])
              have hne : (tabE ts f cs != 0) = true := by rw [bne_iff_ne]; exact h0
              have H0 := Lib.hid h0
              have PP0 := Lib.hid hP
              have HT0 := Lib.hid HT
              clear h0 hP HT hcs
              go_wp2_with fail
              refine (p_Pack_bad _ _ _ _ _ _ _ _ HT0.out H0.out).mono ?_
              rintro e w4 ⟨rfl, hb4⟩
              have PP := Lib.hid (PP0.out.step hb4)
              have hr := PP.out.r.cell
              have hrf := PP.out.r.frz
              have hrl := PP.out.r.lt
              clear PP0 HT0 hmc
              go_wp2_with fail
              obtain ⟨q0, q1, q2⟩ := cells3 (x := .slice none 0 0) (y := .int .i64 0) (z := .slice none 0 0) (hr 0) (hr 1) (hr 2)
              have hBB := below3 (x := .slice none 0 0) (y := .int .i64 0) (z := .slice none 0 0) PP.out.b (Nat.le_refl _)
              revert q0 q1 q2 hBB
              generalize ((w4.setCell ⟨w.heap.size, 0, none⟩ (.slice none 0 0)).setCell ⟨w.heap.size, 1, none⟩ (.int .i64 0)).setCell ⟨w.heap.size, 2, none⟩ (.slice none 0 0) = W'
              intro q0 q1 q2 hBB
              exact bodyPost_ret (v := .tuple #[.agg #[.slice none 0 0, .int .i64 0, .slice none 0 0], .int .i64 5]) (by simp [results, Try.results8, go_sem, q0, q1, q2]) rfl (par_bad HE.out (by decide) rfl hBB)
theorem p_Parse (A : Option Addr) (cap : Nat) (bs : List Int) (w : World) (hS : SlAt w w.heap.size 1 A (bs.map byCells)) (hb : Byt bs) (h1 : bs.length ≤ cap) (h2 : cap ≤ maxLen) :
    Calls Try.prog 8 #[.slice A bs.length cap] w (ParPost bs w) := by
  by_cases h : 20000 < bs.length ∨ bs.length < 8
  · exact p_Parse_size A cap bs w h1 h2 h
  · exact p_Parse_main A cap bs w hS hb (by omega) (by omega) h1 h2
end Go.Proofs.Ytcoapllgpjjbcaa
