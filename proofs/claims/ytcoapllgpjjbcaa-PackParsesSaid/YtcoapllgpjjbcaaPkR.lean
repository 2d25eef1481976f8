/- Walk of the reference's Pack. -/
import Derived.Test.YtcoapllgpjjbcaaPkB
import Derived.Test.YtcoapllgpjjbcaaTabR
import Derived.RangeFuncBox
namespace Go.Proofs.Ytcoapllgpjjbcaa
open Go.RowKit
set_option linter.unusedVariables false
attribute [local go_sem ↓] Go.wp_at_zero Go.wp_at_succ
theorem num_form {w0 w : World} {n : Int} {m : Nat} {v : Value} (h : w.ownsRow w0.heap.size 5 1 v (m + 1) ((beL n (m + 1)).map byC)) :
    ∃ g cap, v = .slice (some ⟨g, 0, none⟩) (m + 1) cap ∧ ∀ j u, ((beL n (m + 1)).map byC)[j]? = some u → w.cell? ((⟨g, 0, none⟩ : Addr).add j) = some u := by
  obtain ⟨g, cap, rfl⟩ := ownsRow_succ h
  exact ⟨g, cap, rfl, h.cells (g := g) rfl⟩
theorem RowB.step {base : Nat} {W W2 : World} {v : Value} {L : List Int} (h : RowB base W v L) (hb : Below W.heap.size W W2) : RowB base W2 v L := own_step h hb
/-- number, as it is called -/
theorem r_num2 (n : Int) (w : World) (h1 : 0 ≤ n) (h2 : n ≤ 18446744073709551615) : Calls Try.prog 20 #[.int .u64 n, .int .i64 2] w (numberPost n 2 w) := r_number 2 n w h1 h2 (by omega)
theorem r_num4 (n : Int) (w : World) (h1 : 0 ≤ n) (h2 : n ≤ 18446744073709551615) : Calls Try.prog 20 #[.int .u64 n, .int .i64 4] w (numberPost n 4 w) := r_number 4 n w h1 h2 (by omega)
theorem r_num8 (n : Int) (w : World) (h1 : 0 ≤ n) (h2 : n ≤ 18446744073709551615) : Calls Try.prog 20 #[.int .u64 n, .int .i64 8] w (numberPost n 8 w) := r_number 8 n w h1 h2 (by omega)
set_option maxRecDepth 100000 in
set_option maxHeartbeats 8000000 in
theorem r_Pack_ok (A C : Option Addr) (capT capC : Nat) (ts : List Ty) (first : Int) (cs : List Ch) (w : World) (H : TabAt w A C capT capC ts cs) (h0 : tabE ts first cs = 0) (K : TabOk ts first cs) :
    Calls Try.prog 7 #[.agg #[.slice A ts.length capT, .int .i64 first, .slice C cs.length capC]] w (PkPost (pkL ts first cs) w) := by
  have m1 := H.mT
  have m2 := H.mC
  have m3 := H.cT
  have m4 := H.cC
  have k1 := K.tmax
  have k2 := K.cmax
  have k3 := K.first0
  have k4 := K.first1
  unfold maxLen at m1 m2
  obtain ⟨i0, hi0, hz0, hz1, hz2⟩ := info_parts info_byte
  have X1 := Lib.hid (Bx.new w #[.slice A ts.length capT, .int .i64 first, .slice C cs.length capC] 25)
  have hb0 : Below w.heap.size w (w.alloc (.cells #[.slice A ts.length capT, .int .i64 first, .slice C cs.length capC] 25)) := (by repeat (first | exact Below.refl _ _ | assumption | apply Below.drew | apply below_drewN | (refine Below.alloc ?_ (by simp; try omega) _) | (refine Below.setCell ?_ (by simp; try omega) _)))
  have HC := Lib.hid (r_TableCheck A C capT capC ts first cs _ (H.below hb0))
  rw [h0] at HC
  have HB := Lib.hid hb0
  clear h0 hb0
  go_enter Try.func7, Try.ntmps7
  go_wp2_with fail
  refine HC.out.mono ?_
  rintro e w1 ⟨rfl, hb⟩
  have x1 := X1.out.step hb
  have hb1 := HB.out.trans (hb.mono HB.out.size)
  have hcs := x1.1
  have hl1 := x1.2.2
  have hcv := Joins.run_convert_bytes_const_at (P := Try.prog) w1 26 5 #[.int .u8 84, .int .u8 90, .int .u8 98, .int .u8 49] 4 4 w1.heap.size rfl Try.underlying26 Try.underlying5
  have hm0 := World.cell?_alloc_mark w1 #[.int .u8 84, .int .u8 90, .int .u8 98, .int .u8 49] 5 (4, 5) 0
  have hm1 := World.cell?_alloc_mark w1 #[.int .u8 84, .int .u8 90, .int .u8 98, .int .u8 49] 5 (4, 5) 1
  have hm2 := World.cell?_alloc_mark w1 #[.int .u8 84, .int .u8 90, .int .u8 98, .int .u8 49] 5 (4, 5) 2
  have hm3 := World.cell?_alloc_mark w1 #[.int .u8 84, .int .u8 90, .int .u8 98, .int .u8 49] 5 (4, 5) 3
  simp at hm0 hm1 hm2 hm3
  clear hb HC X1 HB
  go_upto_region 5 with fail
  have hRow := head_own w1.heap.size ((w1.alloc (.cells #[.int .u8 84, .int .u8 90, .int .u8 98, .int .u8 49] 5 (4, 5))).alloc (.cells #[.int .u8 (ts.length : Int), .int .u8 first] 5)) w1 (.int .u8 84) (.int .u8 90) (.int .u8 98) (.int .u8 49) (.int .u8 (ts.length : Int)) (.int .u8 first) (by simp; omega)
  have hBig : Below w1.heap.size w1 (((w1.alloc (.cells #[.int .u8 84, .int .u8 90, .int .u8 98, .int .u8 49] 5 (4, 5))).alloc (.cells #[.int .u8 (ts.length : Int), .int .u8 first] 5)).alloc (.cells (#[.int .u8 84, .int .u8 90, .int .u8 98, .int .u8 49] ++ (#[.int .u8 (ts.length : Int), .int .u8 first] ++ Builtin.zeroCells #[.int .u8 0] ((Question.appendCap 6 4 5).cut (w1.tape w1.drawn (Question.appendCap 6 4 5)) - 6))) 5)).drew :=
    ((((Below.refl _ _).alloc (Nat.le_refl _) _).alloc (by simp) _).alloc (by simp; omega) _).drew
  simp only [size_alloc] at hRow
  have hR0 : RowB w1.heap.size _ _ ([84, 90, 98, 49, (ts.length : Int), first]) := hRow
  have HR0 := Lib.hid hR0
  have HB0 := Lib.hid hBig
  revert HR0 HB0
  generalize (((w1.alloc (.cells #[.int .u8 84, .int .u8 90, .int .u8 98, .int .u8 49] 5 (4, 5))).alloc (.cells #[.int .u8 (ts.length : Int), .int .u8 first] 5)).alloc (.cells (#[.int .u8 84, .int .u8 90, .int .u8 98, .int .u8 49] ++ (#[.int .u8 (ts.length : Int), .int .u8 first] ++ Builtin.zeroCells #[.int .u8 0] ((Question.appendCap 6 4 5).cut (w1.tape w1.drawn (Question.appendCap 6 4 5)) - 6))) 5)).drew = W2
  intro HR0 HB0
  clear hRow hBig hR0 hcv hm0 hm1 hm2 hm3
  have hz2' := HB0.out.size
  have hx2 := Bx.low x1 HB0.out hl1
  have hcs2 := hx2.1
  have HX2 := Lib.hid hx2
  have HB2 := Lib.hid (hb1.trans (HB0.out.mono hb1.size))
  clear hcs x1 hx2
  go_wp2_with fail
  refine (r_num2 _ _ (by omega) (by omega)).mono ?_
  rintro e w2 ⟨vn, rfl, hOn, hbn⟩
  obtain ⟨gn, cn, rfl, hcn⟩ := num_form (m := 1) hOn
  have HR2 := Lib.hid (HR0.out.step hbn)
  have HB2n := Lib.hid (HB2.out.trans (hbn.mono HB2.out.size))
  have HX2n := Lib.hid (HX2.out.step hbn)
  have hz2n : w1.heap.size ≤ w2.heap.size := Nat.le_trans hz2' hbn.size
  clear hOn hbn hcs2
  have hpl : (pkH ts first cs).length = 8 := by unfold pkH; rw [List.length_append, beL_length]; rfl
  have hnm : ∀ t ∈ ts, t.2.2.size ≤ 8 := fun t ht => abbr_size (K.types t ht).2.2
  have HNM := Lib.hid hnm
  clear hnm
  go_wp2_with (at_builtin; refine wpList_append_lies _ rfl _ _ _ rfl w1.heap.size 5 i0 _ 1 1 Try.underlying26 hi0 hz0 hz1 hz2 rfl (by omega) _ 6 _ rfl HR2.out ⟨gn, 0, none⟩ 2 cn ((beL (cs.length : Int) 2).map byC) rfl (by simp [beL_length]) hcn (by intro u hu; obtain ⟨c, _, rfl⟩ := List.mem_map.1 hu; rfl) (by omega) (by unfold maxLen; omega) (by omega) hz2n _ rfl ?_; intro gg cap3 W3 hown3 hgrow3 hat3 hlt3; have hx3 := Bx.low HX2n.out (below_app hz2n HR2.out hgrow3) hl1; have hcs3 := hx3.1)
  have hk3 : PkK w1.heap.size w2 W3 := PkK.app HR2.out hz2n hgrow3
  have HX3 := Lib.hid hx3
  have HB3 := Lib.hid (HB2n.out.trans (hk3.1.mono (by have := hb1.size; omega)))
  have hR3 : RowB w1.heap.size W3 (.slice (some ⟨gg, 0, none⟩) 8 cap3) (pkH ts first cs) := RowB.add (L := [84, 90, 98, 49, (ts.length : Int), first]) hown3 (by simp [beL_length])
  have HR3 := Lib.hid hR3
  have hz3 : w1.heap.size ≤ W3.heap.size := Nat.le_trans hz2n hk3.1.size
  clear hx3 hk3 hR3 HX2 HB2 HR0 HB0 hz2' hown3 hgrow3 hat3 hlt3 HR2 HB2n HX2n hcn
  go_loopw [5, 37] (fun v i wr => ∃ k : Nat, k ≤ ts.length ∧ i = .int .i64 k ∧ RowB w1.heap.size wr v (pkH ts first cs ++ pkTs ts k) ∧ w1.heap.size ≤ wr.heap.size ∧ Bx w.heap.size wr #[.slice A ts.length capT, .int .i64 first, .slice C cs.length capC] ∧ Below w.heap.size w wr) (fun _ i _ => ts.length - (intOf i).toNat)
  case atStart => exact ⟨0, Nat.zero_le _, rfl, by simpa [pkTs] using HR3.out, hz3, HX3.out, HB3.out⟩
  case round =>
    obtain ⟨k, hk, rfl, hR, hzW, hx, hbr⟩ := hrel
    have HR := Lib.hid hR
    have HX := Lib.hid hx
    have HB := Lib.hid hbr
    have hln := pkTs_length HNM.out hk
    have hln2 : (pkH ts first cs ++ pkTs ts k).length ≤ 4000 := by rw [List.length_append]; omega
    by_cases hlt : k < ts.length
    · obtain ⟨b, o, rfl, hb', d0, d1, d2⟩ := ty_at (H.below hbr).T hlt
      obtain ⟨o1, o2, _⟩ := K.types _ (List.getElem_mem hlt)
      have hn8 := HNM.out _ (List.getElem_mem hlt)
      have hsu := pkTs_succ hlt
      obtain ⟨x, hxe⟩ : ∃ x : Ty, ts[k] = x := ⟨_, rfl⟩
      rw [hxe] at d0 d1 d2 o1 o2 hsu hn8
      have HSU := Lib.hid hsu
      obtain ⟨L1, hL1⟩ : ∃ L, pkH ts first cs ++ pkTs ts k = L := ⟨_, rfl⟩
      have HL1 := Lib.hid hL1
      rw [hL1] at hR hln2
      obtain ⟨nL, hnL⟩ : ∃ q, (L1.map byC).length = q := ⟨_, rfl⟩
      have hnL2 : nL ≤ 4000 := by rw [← hnL, List.length_map]; exact hln2
      have HNL := Lib.hid hnL
      unfold RowB at hR
      rw [hnL] at hR
      have hws : IntKind.u8.wrap (x.2.2.size : Int) = (x.2.2.size : Int) := IntWalk.u8_in _ (by omega)
      have hsz := nmB_length x.2.2
      have HSZ := Lib.hid hsz
      clear hxe hx hbr hsu hL1 hnL HR hln hsz
      cases hsv : x.2.1 with
      | true =>
        rw [hsv] at d1
        have hLn : pkH ts first cs ++ pkTs ts (k + 1) = L1 ++ (beL (x.1 + 2147483648) 4 ++ ([1, (x.2.2.size : Int)] ++ nmB x.2.2)) := by
          rw [HSU.out, ← List.append_assoc, HL1.out, pkT, hsv]
          simp [svB, List.append_assoc]
        have HLn := Lib.hid hLn
        have kx := Blk.new wr #[.int .i64 x.1, .bool true, .string x.2.2] 50
        have kxc := kx.cell
        have KX := Lib.hid kx
        have HRa := Lib.hid (show (wr.alloc (.cells #[.int .i64 x.1, .bool true, .string x.2.2] 50)).ownsRow w1.heap.size 5 1 u5 nL (L1.map byC) from World.ownsRow.alloc hR _)
        clear hsv hLn kx hR
        go_wp2_with fail
        refine (r_num4 _ _ (by omega) (by omega)).mono ?_
        rintro e w2 ⟨vn, rfl, hOn, hbn⟩
        obtain ⟨gn, cn, rfl, hcn⟩ := num_form (m := 3) hOn
        have hR2 := own_step HRa.out hbn
        have HR2 := Lib.hid hR2
        have hz2n : w1.heap.size ≤ w2.heap.size := by have := hbn.size; simp at this; omega
        have KX2 := Lib.hid (KX.out.step hbn)
        have HK2 := Lib.hid (show PkK w1.heap.size wr w2 from PkK.below (((Below.refl _ _).alloc (Nat.le_refl _) _).trans (hbn.mono (by simp))) hzW)
        clear hOn hbn hR2 kxc
        go_wp2_with (first | (at_builtin; refine wpList_append_lies _ rfl _ _ _ rfl w1.heap.size 5 i0 _ 1 1 Try.underlying26 hi0 hz0 hz1 hz2 rfl (by omega) u5 nL _ rfl HR2.out ⟨gn, 0, none⟩ 4 cn ((beL (x.1 + 2147483648) 4).map byC) rfl (by simp [beL_length]) hcn (by intro u hu; obtain ⟨c, _, rfl⟩ := List.mem_map.1 hu; rfl) (by omega) (by unfold maxLen; omega) (by omega) hz2n _ rfl ?_; intro gg3 cap3 w3 hown3 hgrow3 hat3 hlt3; have hk3 := PkK.app HR2.out hz2n hgrow3; have KX3 := hk3.2 _ _ _ (by decide) KX2.out; have kxc := KX3.cell; have hz3n : w1.heap.size ≤ w3.heap.size := Nat.le_trans hz2n hk3.1.size) | (at_builtin; refine wpList_append_lies _ rfl _ _ _ rfl w1.heap.size 5 i0 _ 1 1 Try.underlying26 hi0 hz0 hz1 hz2 rfl (by omega) (.slice (some ⟨gg3, 0, none⟩) (nL + 4) cap3) (nL + 4) _ rfl (World.ownsRow.alloc hown3 _) ⟨w3.heap.size, 0, none⟩ 2 2 [byC 1, byC (x.2.2.size : Int)] rfl rfl (World.news_of_block (cs := #[byC 1, byC (x.2.2.size : Int)]) (t := 5) (fr := (0, 0)) (heap_alloc_new w3 _)) (by simp [Value.oneCell', byC]) (by omega) (by unfold maxLen; omega) (by omega) (by simp; omega) (w3.heap.size + 1) (by simp) ?_; intro gg4 cap4 w4 hown4 hgrow4 hat4 hlt4; have hk4 := PkK.app (World.ownsRow.alloc hown3 _) (by simp; omega) hgrow4; have KX4 := hk4.2 _ _ _ (by decide) (KX3.alloc _); have kxc4 := KX4.cell; have hz4n : w1.heap.size ≤ w4.heap.size := by have := hk4.1.size; simp at this; omega) | (at_builtin; refine Lib.wpList_append_own_string _ rfl _ _ _ _ rfl w1.heap.size 5 i0 Try.underlying26 Try.underlying9 hi0 hz0 hz1 hz2 (.slice (some ⟨gg4, 0, none⟩) (nL + 4 + 2) cap4) (nL + 4 + 2) _ rfl hown4 x.2.2 rfl (by unfold maxLen; omega) (by omega) hz4n ?_; intro v9 w9 hown9 hgrow9 hnil9))
        have hk9 := hk4.trans (PkK.app hown4 hz4n hgrow9)
        have HK9 := Lib.hid (HK2.out.trans (hk3.trans ((PkK.below ((Below.refl w3.heap.size w3).alloc (Nat.le_refl _) _) hz3n).trans hk9)))
        have hR9 : RowB w1.heap.size w9 v9 (L1 ++ (beL (x.1 + 2147483648) 4 ++ ([1, (x.2.2.size : Int)] ++ nmB x.2.2))) := RowB.add (M := beL (x.1 + 2147483648) 4 ++ ([1, (x.2.2.size : Int)] ++ nmB x.2.2)) (by rw [List.map_append, List.map_append, ← str_by, ← List.append_assoc, ← List.append_assoc]; exact hown9) (by rw [HNL.out, List.length_append, List.length_append, beL_length, HSZ.out]; simp; omega)
        exact ⟨⟨k + 1, by omega, by go_num, by rw [HLn.out]; exact hR9, Nat.le_trans hzW HK9.out.1.size, Bx.low HX.out HK9.out.1 hl1, HB.out.trans (HK9.out.1.mono (by have := hb1.size; omega))⟩, by simp [intOf]; omega⟩
      | false =>
        rw [hsv] at d1
        have hLn : pkH ts first cs ++ pkTs ts (k + 1) = L1 ++ (beL (x.1 + 2147483648) 4 ++ ([0, (x.2.2.size : Int)] ++ nmB x.2.2)) := by
          rw [HSU.out, ← List.append_assoc, HL1.out, pkT, hsv]
          simp [svB, List.append_assoc]
        have HLn := Lib.hid hLn
        have kx := Blk.new wr #[.int .i64 x.1, .bool false, .string x.2.2] 50
        have kxc := kx.cell
        have KX := Lib.hid kx
        have HRa := Lib.hid (show (wr.alloc (.cells #[.int .i64 x.1, .bool false, .string x.2.2] 50)).ownsRow w1.heap.size 5 1 u5 nL (L1.map byC) from World.ownsRow.alloc hR _)
        clear hsv hLn kx hR
        go_wp2_with fail
        refine (r_num4 _ _ (by omega) (by omega)).mono ?_
        rintro e w2 ⟨vn, rfl, hOn, hbn⟩
        obtain ⟨gn, cn, rfl, hcn⟩ := num_form (m := 3) hOn
        have hR2 := own_step HRa.out hbn
        have HR2 := Lib.hid hR2
        have hz2n : w1.heap.size ≤ w2.heap.size := by have := hbn.size; simp at this; omega
        have KX2 := Lib.hid (KX.out.step hbn)
        have HK2 := Lib.hid (show PkK w1.heap.size wr w2 from PkK.below (((Below.refl _ _).alloc (Nat.le_refl _) _).trans (hbn.mono (by simp))) hzW)
        clear hOn hbn hR2 kxc
        go_wp2_with (first | (at_builtin; refine wpList_append_lies _ rfl _ _ _ rfl w1.heap.size 5 i0 _ 1 1 Try.underlying26 hi0 hz0 hz1 hz2 rfl (by omega) u5 nL _ rfl HR2.out ⟨gn, 0, none⟩ 4 cn ((beL (x.1 + 2147483648) 4).map byC) rfl (by simp [beL_length]) hcn (by intro u hu; obtain ⟨c, _, rfl⟩ := List.mem_map.1 hu; rfl) (by omega) (by unfold maxLen; omega) (by omega) hz2n _ rfl ?_; intro gg3 cap3 w3 hown3 hgrow3 hat3 hlt3; have hk3 := PkK.app HR2.out hz2n hgrow3; have KX3 := hk3.2 _ _ _ (by decide) KX2.out; have kxc := KX3.cell; have hz3n : w1.heap.size ≤ w3.heap.size := Nat.le_trans hz2n hk3.1.size) | (at_builtin; refine wpList_append_lies _ rfl _ _ _ rfl w1.heap.size 5 i0 _ 1 1 Try.underlying26 hi0 hz0 hz1 hz2 rfl (by omega) (.slice (some ⟨gg3, 0, none⟩) (nL + 4) cap3) (nL + 4) _ rfl (World.ownsRow.alloc hown3 _) ⟨w3.heap.size, 0, none⟩ 2 2 [byC 0, byC (x.2.2.size : Int)] rfl rfl (World.news_of_block (cs := #[byC 0, byC (x.2.2.size : Int)]) (t := 5) (fr := (0, 0)) (heap_alloc_new w3 _)) (by simp [Value.oneCell', byC]) (by omega) (by unfold maxLen; omega) (by omega) (by simp; omega) (w3.heap.size + 1) (by simp) ?_; intro gg4 cap4 w4 hown4 hgrow4 hat4 hlt4; have hk4 := PkK.app (World.ownsRow.alloc hown3 _) (by simp; omega) hgrow4; have KX4 := hk4.2 _ _ _ (by decide) (KX3.alloc _); have kxc4 := KX4.cell; have hz4n : w1.heap.size ≤ w4.heap.size := by have := hk4.1.size; simp at this; omega) | (at_builtin; refine Lib.wpList_append_own_string _ rfl _ _ _ _ rfl w1.heap.size 5 i0 Try.underlying26 Try.underlying9 hi0 hz0 hz1 hz2 (.slice (some ⟨gg4, 0, none⟩) (nL + 4 + 2) cap4) (nL + 4 + 2) _ rfl hown4 x.2.2 rfl (by unfold maxLen; omega) (by omega) hz4n ?_; intro v9 w9 hown9 hgrow9 hnil9))
        have hk9 := hk4.trans (PkK.app hown4 hz4n hgrow9)
        have HK9 := Lib.hid (HK2.out.trans (hk3.trans ((PkK.below ((Below.refl w3.heap.size w3).alloc (Nat.le_refl _) _) hz3n).trans hk9)))
        have hR9 : RowB w1.heap.size w9 v9 (L1 ++ (beL (x.1 + 2147483648) 4 ++ ([0, (x.2.2.size : Int)] ++ nmB x.2.2))) := RowB.add (M := beL (x.1 + 2147483648) 4 ++ ([0, (x.2.2.size : Int)] ++ nmB x.2.2)) (by rw [List.map_append, List.map_append, ← str_by, ← List.append_assoc, ← List.append_assoc]; exact hown9) (by rw [HNL.out, List.length_append, List.length_append, beL_length, HSZ.out]; simp; omega)
        exact ⟨⟨k + 1, by omega, by go_num, by rw [HLn.out]; exact hR9, Nat.le_trans hzW HK9.out.1.size, Bx.low HX.out HK9.out.1 hl1, HB.out.trans (HK9.out.1.mono (by have := hb1.size; omega))⟩, by simp [intOf]; omega⟩
    · obtain rfl : k = ts.length := by omega
      obtain ⟨LA, hLA⟩ : ∃ L, pkH ts first cs ++ pkTs ts ts.length = L := ⟨_, rfl⟩
      have HLA := Lib.hid hLA
      rw [hLA] at HR hln2
      have hx0 := hx.1
      clear hR hx hbr hLA
      go_wp2_with fail
      go_loopw [5, 67] (fun v i wr => ∃ k : Nat, k ≤ cs.length ∧ i = .int .i64 k ∧ RowB w1.heap.size wr v (LA ++ pkCs cs k) ∧ w1.heap.size ≤ wr.heap.size ∧ Bx w.heap.size wr #[.slice A ts.length capT, .int .i64 first, .slice C cs.length capC] ∧ Below w.heap.size w wr) (fun _ i _ => cs.length - (intOf i).toNat)
      case atStart => exact ⟨0, Nat.zero_le _, rfl, by simpa [pkCs] using HR.out, hzW, HX.out, HB.out⟩
      case round =>
        obtain ⟨k, hk, rfl, hR, hzW, hx, hbr⟩ := hrel
        have HR := Lib.hid hR
        have HX := Lib.hid hx
        have HB := Lib.hid hbr
        have hln := pkCs_length hk
        have hln3 : (LA ++ pkCs cs k).length ≤ 14000 := by rw [List.length_append]; omega
        by_cases hlt : k < cs.length
        · obtain ⟨b, o, rfl, hb', d0, d1⟩ := ch_at (H.below hbr).C hlt
          obtain ⟨c1, c2, c3, c4⟩ := K.range _ (List.getElem_mem hlt)
          have hsu := pkCs_succ hlt
          obtain ⟨a, ha⟩ : ∃ a, cs[k].1 = a := ⟨_, rfl⟩
          obtain ⟨t, ht⟩ : ∃ a, cs[k].2 = a := ⟨_, rfl⟩
          have hpc : pkC cs[k] = beL (a + 9223372036854775808) 8 ++ [t] := by rw [pkC, ha, ht]
          rw [ha] at d0 c1 c2
          rw [ht] at d1 c3 c4
          rw [hpc] at hsu
          obtain ⟨L1, hL1⟩ : ∃ L, LA ++ pkCs cs k = L := ⟨_, rfl⟩
          have HSU := Lib.hid (show LA ++ pkCs cs (k + 1) = L1 ++ (beL (a + 9223372036854775808) 8 ++ [t]) by rw [hsu, ← hL1]; simp [List.append_assoc])
          rw [hL1] at hR hln3
          obtain ⟨nL, hnL⟩ : ∃ q, (L1.map byC).length = q := ⟨_, rfl⟩
          have hnL2 : nL ≤ 14000 := by rw [← hnL, List.length_map]; exact hln3
          have HNL := Lib.hid hnL
          unfold RowB at hR
          rw [hnL] at hR
          clear hpc hsu hL1 ha ht HR hx hbr hnL
          obtain ⟨q, hq⟩ : ∃ q, IntKind.u64.wrap a = q := ⟨_, rfl⟩
          have hq2 : IntKind.u64.wrap (q + 9223372036854775808) = a + 9223372036854775808 := by rw [← hq, IntKind.wrap_u64, IntKind.wrap_u64]; omega
          have hq3 : IntKind.u8.wrap t = t := IntWalk.u8_in _ (by omega)
          have kx := Blk.new wr #[.int .i64 a, .int .i64 t] 52
          have kxc := kx.cell
          have KX := Lib.hid kx
          have HRa := Lib.hid (show (wr.alloc (.cells #[.int .i64 a, .int .i64 t] 52)).ownsRow w1.heap.size 5 1 u5 nL (L1.map byC) from World.ownsRow.alloc hR _)
          clear kx hR
          go_wp2_with fail
          refine (r_num8 _ _ (by omega) (by omega)).mono ?_
          rintro e w2 ⟨vn, rfl, hOn, hbn⟩
          obtain ⟨gn, cn, rfl, hcn⟩ := num_form (m := 7) hOn
          have hR2 := own_step HRa.out hbn
          have HR2 := Lib.hid hR2
          have hz2n : w1.heap.size ≤ w2.heap.size := by have := hbn.size; simp at this; omega
          have KX2 := Lib.hid (KX.out.step hbn)
          have HK2 := Lib.hid (show PkK w1.heap.size wr w2 from PkK.below (((Below.refl _ _).alloc (Nat.le_refl _) _).trans (hbn.mono (by simp))) hzW)
          clear hOn hbn hR2 kxc
          go_wp2_with (first | (at_builtin; refine wpList_append_lies _ rfl _ _ _ rfl w1.heap.size 5 i0 _ 1 1 Try.underlying26 hi0 hz0 hz1 hz2 rfl (by omega) u5 nL _ rfl HR2.out ⟨gn, 0, none⟩ 8 cn ((beL (a + 9223372036854775808) 8).map byC) rfl (by simp [beL_length]) hcn (by intro u hu; obtain ⟨c, _, rfl⟩ := List.mem_map.1 hu; rfl) (by omega) (by unfold maxLen; omega) (by omega) hz2n _ rfl ?_; intro gg3 cap3 w3 hown3 hgrow3 hat3 hlt3; have hk3 := PkK.app HR2.out hz2n hgrow3; have KX3 := hk3.2 _ _ _ (by decide) KX2.out; have kxc := KX3.cell; have hz3n : w1.heap.size ≤ w3.heap.size := Nat.le_trans hz2n hk3.1.size) | (at_builtin; refine wpList_append_lies _ rfl _ _ _ rfl w1.heap.size 5 i0 _ 1 1 Try.underlying26 hi0 hz0 hz1 hz2 rfl (by omega) (.slice (some ⟨gg3, 0, none⟩) (nL + 8) cap3) (nL + 8) _ rfl (World.ownsRow.alloc hown3 _) ⟨w3.heap.size, 0, none⟩ 1 1 [byC t] rfl rfl (World.news_of_block (cs := #[byC t]) (t := 5) (fr := (0, 0)) (heap_alloc_new w3 _)) (by simp [Value.oneCell', byC]) (by omega) (by unfold maxLen; omega) (by omega) (by simp; omega) (w3.heap.size + 1) (by simp) ?_; intro gg4 cap4 w4 hown4 hgrow4 hat4 hlt4; have hk4 := PkK.app (World.ownsRow.alloc hown3 _) (by simp; omega) hgrow4) | fail)
          have HK9 := Lib.hid (HK2.out.trans (hk3.trans ((PkK.below ((Below.refl w3.heap.size w3).alloc (Nat.le_refl _) _) hz3n).trans hk4)))
          have hR9 : RowB w1.heap.size w4 (.slice (some ⟨gg4, 0, none⟩) (nL + 8 + 1) cap4) (L1 ++ (beL (a + 9223372036854775808) 8 ++ [t])) := RowB.add (M := beL (a + 9223372036854775808) 8 ++ [t]) (by rw [List.map_append, ← List.append_assoc]; exact hown4) (by rw [HNL.out, List.length_append, beL_length]; rfl)
          exact ⟨⟨k + 1, by omega, by go_num, by rw [HSU.out]; exact hR9, Nat.le_trans hzW HK9.out.1.size, Bx.low HX.out HK9.out.1 hl1, HB.out.trans (HK9.out.1.mono (by have := hb1.size; omega))⟩, by simp [intOf]; omega⟩
        · obtain rfl : k = cs.length := by omega
          have HE := Lib.hid (show pkL ts first cs = LA ++ pkCs cs cs.length by rw [pkL, HLA.out])
          clear hR hx hbr
          go_wp2_with fail
          go_ret2
          exact ⟨u5, rfl, by rw [HE.out]; have := HR.out; unfold RowB at this; rw [List.length_map] at this; exact this.mono hb1.size, HB.out⟩
end Go.Proofs.Ytcoapllgpjjbcaa
