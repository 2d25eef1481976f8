/- slices.SortStableFunc at the turns' nominals: symMerge where the first half is one element. -/
import Derived.Test.YtanaoohgpdcfjaaGreatDoorSkC
namespace Go.Proofs.YtanaoohgpdcfjaaGreatDoor
open Go.RowKit Go.Sort
set_option linter.unusedVariables false
theorem so_get (L B R : List Nm) (x : Nm) {h a : Nat} (ha : L.length = a) (hh : h < B.length) : (L ++ x :: (B ++ R))[a + 1 + h]? = some B[h] := by
  rw [List.getElem?_append_right (by omega), show a + 1 + h - L.length = h + 1 by omega, List.getElem?_cons_succ, List.getElem?_append_left hh, List.getElem?_eq_getElem hh]
theorem so_get0 (L T : List Nm) (x : Nm) {a : Nat} (ha : L.length = a) : (L ++ x :: T)[a]? = some x := by
  rw [List.getElem?_append_right (by omega), show a - L.length = 0 by omega, List.getElem?_cons_zero]
set_option maxRecDepth 100000 in
set_option maxHeartbeats 8000000 in
theorem s_sym_one (base G cap N a m b : Nat) (L B R : List Nm) (x : Nm) (w : World) (hN : (L ++ x :: (B ++ R)).length = N) (ha : L.length = a) (hma : a + 1 = m) (hb : a + 1 + B.length = b) (hn : N ≤ 100000) (hs : NmS B) (H : NmAt w base G cap (L ++ x :: (B ++ R))) :
    Calls Tryz.prog 183 #[.slice (some ⟨G, 0, none⟩) N cap, .int .i64 a, .int .i64 m, .int .i64 b, .func (.func 88) #[] #[]] w
      fun e w' => e = .returned (.tuple #[]) ∧ NmAt w' base G cap (L ++ (smerge Prod.fst [x] B ++ R)) ∧ w.grownBy w' (some G) := by
  have hNl : a + 1 + B.length + R.length = N := by rw [← hN, ← ha]; simp; omega
  obtain ⟨nb, hnb⟩ : ∃ n, B.length = n := ⟨_, rfl⟩
  rw [hnb] at hNl hb
  have HB := Lib.hid hnb
  have HA := Lib.hid ha
  have HN := Lib.hid hN
  have HS := Lib.hid hs
  have H0 := Lib.hid H
  have hcap := Lib.hid H.caps
  have e1 : (m : Int) - (a : Int) = 1 := by omega
  have ham : a ≤ m := by omega
  have hbN : b ≤ N := by omega
  have HM := Lib.hid hma
  have HBB := Lib.hid hb
  have HNL := Lib.hid hNl
  have hmN : m ≤ b := by omega
  clear hnb ha hN hs H hma hb hNl
  have mixed : Tryz.prog.follows .mixedOrders = true := by kernel_rfl
  go_enter Tryz.func183, Tryz.ntmps183
  go_wp2_with fail
  go_loopw [10, 11] (fun i j wr => ∃ p q : Nat, m ≤ p ∧ p ≤ q ∧ q ≤ b ∧ i = .int .i64 p ∧ j = .int .i64 q ∧ Hid ((∀ t ∈ B.take (p - m), t.1 < x.1) ∧ (∀ t ∈ B.drop (q - m), x.1 ≤ t.1)) ∧ Hid (NmAt wr base G cap (L ++ x :: (B ++ R))) ∧ Hid (w.grownBy wr (some G))) (fun i j _ => (intOf j).toNat - (intOf i).toNat)
  case atStart => exact ⟨m, b, Nat.le_refl _, by omega, Nat.le_refl _, rfl, rfl, Lib.hid ⟨by simp, by rw [List.drop_eq_nil_of_le (by rw [HB.out]; have := HBB.out; have := HM.out; omega)]; simp⟩, H0, Lib.hid (grown_refl w _)⟩
  case round =>
    clear H0
    obtain ⟨p, q, hmp, hpq, hqb, rfl, rfl, HK, HW, HG⟩ := hrel
    by_cases hlt : p < q
    · obtain ⟨h, hh⟩ : ∃ h, (p + q) / 2 = h := ⟨_, rfl⟩
      have hp1 : p ≤ h := by omega
      have hq1 : h < q := by omega
      have hB : h - m < B.length := by rw [HB.out]; have := HBB.out; have := HM.out; omega
      have g1 := so_get L B R x (h := h - m) HA.out hB
      have g2 := so_get0 L (B ++ R) x HA.out
      rw [HM.out, show m + (h - m) = h by omega] at g1
      obtain ⟨y, hy⟩ : ∃ y, B[h - m] = y := ⟨_, rfl⟩
      rw [hy] at g1
      obtain ⟨c10, c11⟩ := HW.out.seen g1
      obtain ⟨c20, c21⟩ := HW.out.seen g2
      have HY := Lib.hid hy
      clear g1 g2 hy
      have hc2 := hcap.out.2
      unfold maxLen at hc2
      have i1 : (0 : Int) ≤ (h : Int) := by omega
      have i2 : (h : Int) < (N : Int) := by omega
      have i3 : (a : Int) < (N : Int) := by have := HM.out; omega
      have cv1 : IntKind.u64.wrap ((p : Int) + (q : Int)) = (p : Int) + (q : Int) := by rw [IntKind.wrap_u64]; omega
      have hd : ((p : Int) + (q : Int)) / 2 = (h : Int) := by omega
      obtain ⟨xa, xp⟩ := x
      obtain ⟨ya, yp⟩ := y
      simp only at c10 c11 c20 c21
      by_cases hyx : ya < xa
      · have hc := cmpI_lt hyx
        go_wp2_with fail
        go_quiet_grown (first | (go_at_call 88; exact Calls.grown_of (nm_cmp _ _ _ _ _)))
        clear c10 c11 c20 c21
        have HF := Lib.hid (And.intro (HW.out.grow nq osq) (grown_grow HG.out nq osq))
        generalize Go.Sort.grow (wr.drewN nq) osq = W at HF ⊢
        go_wp2_with fail
        refine ⟨⟨h + 1, q, by omega, by omega, hqb, by go_num, rfl, Lib.hid ⟨?_, HK.out.2⟩, Lib.hid HF.out.1, Lib.hid HF.out.2⟩, by simp only [intOf]; omega⟩
        have := nms_take HS.out hB (x := xa) (by rw [HY.out]; exact hyx)
        rwa [show h + 1 - m = h - m + 1 by omega]
      · have hc := cmpI_ge hyx
        go_wp2_with fail
        go_quiet_grown (first | (go_at_call 88; exact Calls.grown_of (nm_cmp _ _ _ _ _)))
        clear c10 c11 c20 c21
        have HF := Lib.hid (And.intro (HW.out.grow nq osq) (grown_grow HG.out nq osq))
        generalize Go.Sort.grow (wr.drewN nq) osq = W at HF ⊢
        go_wp2_with fail
        refine ⟨⟨p, h, hmp, by omega, by omega, rfl, by go_num, Lib.hid ⟨HK.out.1, ?_⟩, Lib.hid HF.out.1, Lib.hid HF.out.2⟩, by simp only [intOf]; omega⟩
        exact nms_drop HS.out hB (x := xa) (by rw [HY.out]; simp only; omega)
    · obtain rfl : p = q := by omega
      clear HS
      have hpm1 : (0 : Int) ≤ (p : Int) - 1 := by omega
      obtain ⟨J, hJ⟩ : ∃ J, p - m = J := ⟨_, rfl⟩
      rw [hJ] at HK
      have hpJ : p = a + 1 + J := by have := HM.out; omega
      have hJB : J ≤ B.length := by rw [HB.out]; have := HBB.out; omega
      obtain ⟨B1, hB1⟩ : ∃ l, B.take J = l := ⟨_, rfl⟩
      obtain ⟨B2, hB2⟩ : ∃ l, B.drop J = l := ⟨_, rfl⟩
      rw [hB1, hB2] at HK
      have hl1 : B1.length = J := by rw [← hB1, List.length_take]; omega
      have hBB : B = B1 ++ B2 := by rw [← hB1, ← hB2, List.take_append_drop]
      have HBq := Lib.hid hBB
      have HL1 := Lib.hid hl1
      have HW0 := Lib.hid (show NmAt wr base G cap ((L ++ B1.take 0) ++ x :: (B1.drop 0 ++ (B2 ++ R))) by have := HW.out; rw [hBB] at this; simpa using this)
      obtain ⟨z, hz⟩ : ∃ z, a + J = z := ⟨_, rfl⟩
      have e9 : (p : Int) - 1 = (z : Int) := by omega
      have hzN : z + 1 ≤ N := by omega
      have haz : a ≤ z := by omega
      have HZ := Lib.hid hz
      have HGG := Lib.hid HG.out
      clear HW hB1 hB2 hBB hl1 hJ HG hpJ hz hJB
      go_wp2_with fail
      go_loopw [13] (fun i wr => ∃ r : Nat, a ≤ r ∧ r ≤ z ∧ i = .int .i64 r ∧ Hid (NmAt wr base G cap ((L ++ B1.take (r - a)) ++ x :: (B1.drop (r - a) ++ (B2 ++ R)))) ∧ Hid (w.grownBy wr (some G))) (fun i _ => z - (intOf i).toNat)
      case atStart => exact ⟨a, Nat.le_refl _, haz, rfl, by rw [Nat.sub_self]; exact HW0, HGG⟩
      case round =>
        clear HW0 HGG
        obtain ⟨r, har, hrz, rfl, HW, HG⟩ := hrel
        by_cases hlk : r < z
        · obtain ⟨k, hk⟩ : ∃ k, r - a = k := ⟨_, rfl⟩
          rw [hk] at HW
          have hk1 : k < B1.length := by rw [HL1.out]; have := HZ.out; omega
          have HKK := Lib.hid hk
          obtain ⟨y, hy⟩ : ∃ y, B1[k] = y := ⟨_, rfl⟩
          have hdr : B1.drop k = y :: B1.drop (k + 1) := by rw [List.drop_eq_getElem_cons hk1, hy]
          have htk : B1.take (k + 1) = B1.take k ++ [y] := by rw [List.take_succ_eq_append_getElem hk1, hy]
          have hlen : (L ++ B1.take k).length = r := by rw [List.length_append, List.length_take, HA.out]; omega
          have HX := Lib.hid (show NmAt wr base G cap ((L ++ B1.take k) ++ x :: y :: (B1.drop (k + 1) ++ (B2 ++ R))) by have := HW.out; rw [hdr] at this; exact this)
          have g1 : ((L ++ B1.take k) ++ x :: y :: (B1.drop (k + 1) ++ (B2 ++ R)))[r]? = some x := so_get0 _ _ x hlen
          have g2 : ((L ++ B1.take k) ++ x :: y :: (B1.drop (k + 1) ++ (B2 ++ R)))[r + 1]? = some y := by
            rw [List.getElem?_append_right (by omega), show r + 1 - (L ++ B1.take k).length = 1 by omega]; rfl
          have hS0 := HX.out.swap (i := r) (j := r + 1) (x := x) (y := y) (by have := (List.getElem?_eq_some_iff.1 g1).1; exact this) (by have := (List.getElem?_eq_some_iff.1 g2).1; exact this)
          rw [sw2_up _ _ x y hlen.symm] at hS0
          have HS0 := Lib.hid hS0
          obtain ⟨c10, c11⟩ := HX.out.cell' g1
          obtain ⟨c20, c21⟩ := HX.out.cell' g2
          have z10 := HX.out.frz ((r) * 2)
          have z11 := HX.out.frz ((r) * 2 + 1)
          have z20 := HX.out.frz ((r + 1) * 2)
          have z21 := HX.out.frz ((r + 1) * 2 + 1)
          have zl := HX.out.lt.2
          have hc2 := hcap.out.2
          unfold maxLen at hc2
          have HT := Lib.hid (show (L ++ B1.take k) ++ y :: x :: (B1.drop (k + 1) ++ (B2 ++ R)) = (L ++ B1.take (k + 1)) ++ x :: (B1.drop (k + 1) ++ (B2 ++ R)) by rw [htk]; simp)
          have i1 : (0 : Int) ≤ ((r : Nat) : Int) := by omega
          have i2 : ((r : Nat) : Int) < (N : Int) := by omega
          have i3 : (0 : Int) ≤ ((r : Nat) : Int) + 1 := by omega
          have i4 : ((r : Nat) : Int) + 1 < (N : Int) := by omega
          clear g1 g2 hS0 hy hdr htk hlen hk hk1
          obtain ⟨xa, xp⟩ := x
          obtain ⟨ya, yp⟩ := y
          simp only at c10 c11 c20 c21
          go_wp2_with fail
          go_region
          have HF := Lib.hid (And.intro HS0.out (grown_same HG.out (grown_swap (w := wr) (G := G) ((r) * 2) ((r) * 2 + 1) ((r + 1) * 2) ((r + 1) * 2 + 1) (.int .i64 ya) (.pointer yp) (.int .i64 xa) (.pointer xp))))
          clear c10 c11 c20 c21 z10 z11 z20 z21 HS0 zl HX HW
          obtain ⟨V, hV⟩ : ∃ V, (((wr.setCell ⟨G, (r) * 2, none⟩ (.int .i64 ya)).setCell ⟨G, (r) * 2 + 1, none⟩ (.pointer yp)).setCell ⟨G, (r + 1) * 2, none⟩ (.int .i64 xa)).setCell ⟨G, (r + 1) * 2 + 1, none⟩ (.pointer xp) = V := ⟨_, rfl⟩
          rw [hV] at HF ⊢
          clear hV
          go_wp2_with fail
          exact ⟨⟨r + 1, by omega, by omega, by go_num, Lib.hid (by have := HF.out.1; rw [HT.out] at this; rw [show r + 1 - a = k + 1 by have := HKK.out; omega]; exact World.ownsRow.kept this (grown_drew (grown_refl V none)) (Or.inr (by simp [Value.ownBlock]))), Lib.hid (grown_drew HF.out.2)⟩, by simp only [intOf]; omega⟩
        · obtain rfl : r = z := by omega
          go_wp2_with fail
          refine bodyPost_ret (results_none rfl _ _ _) rfl ?_
          refine ⟨rfl, ?_, HG.out⟩
          have hh := HW.out
          have hJz : r - a = J := by have := HZ.out; omega
          rw [hJz] at hh
          rw [List.take_of_length_le (by rw [HL1.out]; omega), List.drop_eq_nil_of_le (by rw [HL1.out]; omega)] at hh
          rw [HBq.out, smerge_one Prod.fst B1 B2 x HK.out.1 HK.out.2]
          simpa using hh
end Go.Proofs.YtanaoohgpdcfjaaGreatDoor
