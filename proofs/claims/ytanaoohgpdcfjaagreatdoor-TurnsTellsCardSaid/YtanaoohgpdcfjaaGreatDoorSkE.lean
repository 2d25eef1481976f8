/- slices.SortStableFunc at the turns' nominals: symMerge where the second half is one element. -/
import Derived.Test.YtanaoohgpdcfjaaGreatDoorSkD
namespace Go.Proofs.YtanaoohgpdcfjaaGreatDoor
open Go.RowKit Go.Sort
set_option linter.unusedVariables false
theorem sl_get (L A T : List Nm) {h a : Nat} (ha : L.length = a) (hh : h < A.length) : (L ++ (A ++ T))[a + h]? = some A[h] := by
  rw [List.getElem?_append_right (by omega), show a + h - L.length = h by omega, List.getElem?_append_left hh, List.getElem?_eq_getElem hh]
theorem sl_get0 (L A T : List Nm) (y : Nm) {m : Nat} (hm : L.length + A.length = m) : (L ++ (A ++ y :: T))[m]? = some y := by
  rw [← List.append_assoc]; exact so_get0 _ _ _ (by simp; omega)
set_option maxRecDepth 100000 in
set_option maxHeartbeats 8000000 in
theorem s_sym_last (base G cap N a m b : Nat) (L A R : List Nm) (y : Nm) (w : World) (hN : (L ++ (A ++ y :: R)).length = N) (ha : L.length = a) (hma : a + A.length = m) (hb : m + 1 = b) (hn : N ≤ 100000) (hA1 : A.length ≠ 1) (hs : NmS A) (H : NmAt w base G cap (L ++ (A ++ y :: R))) :
    Calls Tryz.prog 183 #[.slice (some ⟨G, 0, none⟩) N cap, .int .i64 a, .int .i64 m, .int .i64 b, .func (.func 88) #[] #[]] w
      fun e w' => e = .returned (.tuple #[]) ∧ NmAt w' base G cap (L ++ (smerge Prod.fst A [y] ++ R)) ∧ w.grownBy w' (some G) := by
  have hNl : a + A.length + 1 + R.length = N := by rw [← hN, ← ha]; simp; omega
  obtain ⟨na, hna⟩ : ∃ n, A.length = n := ⟨_, rfl⟩
  rw [hna] at hNl hma hA1
  have HB := Lib.hid hna
  have HA := Lib.hid ha
  have HN := Lib.hid hN
  have HS := Lib.hid hs
  have H0 := Lib.hid H
  have hcap := Lib.hid H.caps
  have e0 : ((m : Int) - (a : Int) == 1) = false := by rw [beq_eq_false_iff_ne]; omega
  have e1 : (b : Int) - (m : Int) = 1 := by omega
  have ham : a ≤ m := by omega
  have hbN : b ≤ N := by omega
  have HM := Lib.hid hma
  have HBB := Lib.hid hb
  have HNL := Lib.hid hNl
  have hmN : m < N := by omega
  clear hna ha hN hs H hma hNl hA1 hb
  have mixed : Tryz.prog.follows .mixedOrders = true := by kernel_rfl
  go_enter Tryz.func183, Tryz.ntmps183
  go_wp2_with fail
  go_loopw [14, 15] (fun i j wr => ∃ p q : Nat, a ≤ p ∧ p ≤ q ∧ q ≤ m ∧ i = .int .i64 p ∧ j = .int .i64 q ∧ Hid ((∀ t ∈ A.take (p - a), t.1 ≤ y.1) ∧ (∀ t ∈ A.drop (q - a), y.1 < t.1)) ∧ Hid (NmAt wr base G cap (L ++ (A ++ y :: R))) ∧ Hid (w.grownBy wr (some G))) (fun i j _ => (intOf j).toNat - (intOf i).toNat)
  case atStart => exact ⟨a, m, Nat.le_refl _, ham, Nat.le_refl _, rfl, rfl, Lib.hid ⟨by simp, by rw [List.drop_eq_nil_of_le (by rw [HB.out]; have := HM.out; omega)]; simp⟩, H0, Lib.hid (grown_refl w _)⟩
  case round =>
    clear H0
    obtain ⟨p, q, hmp, hpq, hqb, rfl, rfl, HK, HW, HG⟩ := hrel
    by_cases hlt : p < q
    · obtain ⟨h, hh⟩ : ∃ h, (p + q) / 2 = h := ⟨_, rfl⟩
      have hp1 : p ≤ h := by omega
      have hq1 : h < q := by omega
      have hB : h - a < A.length := by rw [HB.out]; have := HM.out; omega
      have g1 := sl_get L A (y :: R) (h := h - a) HA.out hB
      have g2 := sl_get0 L A R y (m := m) (by rw [HA.out, HB.out]; exact HM.out)
      rw [show a + (h - a) = h by omega] at g1
      obtain ⟨x, hx⟩ : ∃ x, A[h - a] = x := ⟨_, rfl⟩
      rw [hx] at g1
      obtain ⟨c10, c11⟩ := HW.out.seen g1
      obtain ⟨c20, c21⟩ := HW.out.seen g2
      have HY := Lib.hid hx
      clear g1 g2 hx
      have hc2 := hcap.out.2
      unfold maxLen at hc2
      have i1 : (0 : Int) ≤ (h : Int) := by omega
      have i2 : (h : Int) < (N : Int) := by omega
      have i3 : (m : Int) < (N : Int) := by omega
      have cv1 : IntKind.u64.wrap ((p : Int) + (q : Int)) = (p : Int) + (q : Int) := by rw [IntKind.wrap_u64]; omega
      have hd : ((p : Int) + (q : Int)) / 2 = (h : Int) := by omega
      obtain ⟨xa, xp⟩ := x
      obtain ⟨ya, yp⟩ := y
      simp only at c10 c11 c20 c21
      by_cases hyx : ya < xa
      · have hc := cmpI_lt hyx
        go_wp2_with fail
        go_quiet_grown (first | (go_at_call 88; exact Calls.grown_of (nm_cmp _ _ _ _ _)))
        clear c10 c11 c20 c21
        have HF := Lib.hid (And.intro (HW.out.grow nq osq) (grown_grow HG.out nq osq))
        generalize Go.Sort.grow (wr.drewN nq) osq = W at HF ⊢
        go_wp2_with fail
        refine ⟨⟨p, h, hmp, by omega, by omega, rfl, by go_num, Lib.hid ⟨HK.out.1, ?_⟩, Lib.hid HF.out.1, Lib.hid HF.out.2⟩, by simp only [intOf]; omega⟩
        exact nms_droplt HS.out hB (x := ya) (by rw [HY.out]; exact hyx)
      · have hc : decide (Lib.compareInt ya xa < 0) = false := decide_eq_false (cmpI_ge hyx)
        go_wp2_with fail
        go_quiet_grown (first | (go_at_call 88; exact Calls.grown_of (nm_cmp _ _ _ _ _)))
        clear c10 c11 c20 c21
        have HF := Lib.hid (And.intro (HW.out.grow nq osq) (grown_grow HG.out nq osq))
        generalize Go.Sort.grow (wr.drewN nq) osq = W at HF ⊢
        go_wp2_with fail
        refine ⟨⟨h + 1, q, by omega, by omega, hqb, by go_num, rfl, Lib.hid ⟨?_, HK.out.2⟩, Lib.hid HF.out.1, Lib.hid HF.out.2⟩, by simp only [intOf]; omega⟩
        have := nms_takele HS.out hB (x := ya) (by rw [HY.out]; simp only; omega)
        rwa [show h + 1 - a = h - a + 1 by omega]
    · obtain rfl : p = q := by omega
      clear HS
      obtain ⟨J, hJ⟩ : ∃ J, p - a = J := ⟨_, rfl⟩
      rw [hJ] at HK
      have hJB : J ≤ A.length := by rw [HB.out]; have := HM.out; omega
      obtain ⟨B1, hB1⟩ : ∃ l, A.take J = l := ⟨_, rfl⟩
      obtain ⟨B2, hB2⟩ : ∃ l, A.drop J = l := ⟨_, rfl⟩
      rw [hB1, hB2] at HK
      have hl1 : B1.length = J := by rw [← hB1, List.length_take]; omega
      have hl2 : B2.length = m - p := by rw [← hB2, List.length_drop, HB.out]; have := HM.out; omega
      have hBB : A = B1 ++ B2 := by rw [← hB1, ← hB2, List.take_append_drop]
      have HBq := Lib.hid hBB
      have HL2 := Lib.hid hl2
      have HLP := Lib.hid (show (L ++ B1).length = p by rw [List.length_append, HA.out, hl1]; omega)
      have HW0 := Lib.hid (show NmAt wr base G cap (((L ++ B1) ++ B2.take (m - p)) ++ y :: (B2.drop (m - p) ++ R)) by have := HW.out; rw [hBB] at this; rw [List.take_of_length_le (by omega), List.drop_eq_nil_of_le (by omega)]; simpa using this)
      have HGG := Lib.hid HG.out
      clear HW hB1 hB2 hBB hl1 hl2 hJ HG hJB
      go_wp2_with fail
      go_loopw [17] (fun i wr => ∃ r : Nat, p ≤ r ∧ r ≤ m ∧ i = .int .i64 r ∧ Hid (NmAt wr base G cap (((L ++ B1) ++ B2.take (r - p)) ++ y :: (B2.drop (r - p) ++ R))) ∧ Hid (w.grownBy wr (some G))) (fun i _ => (intOf i).toNat)
      case atStart => exact ⟨m, by omega, Nat.le_refl _, rfl, HW0, HGG⟩
      case round =>
        clear HW0 HGG
        obtain ⟨r, hpr, hrm, rfl, HW, HG⟩ := hrel
        by_cases hlk : p < r
        · obtain ⟨s, rfl⟩ : ∃ s, r = s + 1 := ⟨r - 1, by omega⟩
          obtain ⟨k, hk⟩ : ∃ k, s - p = k := ⟨_, rfl⟩
          rw [show s + 1 - p = k + 1 by omega] at HW
          have hk1 : k < B2.length := by rw [HL2.out]; omega
          have HKK := Lib.hid hk
          obtain ⟨x, hx⟩ : ∃ x, B2[k] = x := ⟨_, rfl⟩
          have hdr : B2.drop k = x :: B2.drop (k + 1) := by rw [List.drop_eq_getElem_cons hk1, hx]
          have htk : B2.take (k + 1) = B2.take k ++ [x] := by rw [List.take_succ_eq_append_getElem hk1, hx]
          have hlen : ((L ++ B1) ++ B2.take k).length = s := by rw [List.length_append, List.length_take, HLP.out]; omega
          have HX := Lib.hid (show NmAt wr base G cap (((L ++ B1) ++ B2.take k) ++ x :: y :: (B2.drop (k + 1) ++ R)) by have := HW.out; rw [htk] at this; simpa using this)
          have g1 : (((L ++ B1) ++ B2.take k) ++ x :: y :: (B2.drop (k + 1) ++ R))[s]? = some x := so_get0 _ _ x hlen
          have g2 : (((L ++ B1) ++ B2.take k) ++ x :: y :: (B2.drop (k + 1) ++ R))[s + 1]? = some y := by
            rw [List.getElem?_append_right (by omega), show s + 1 - ((L ++ B1) ++ B2.take k).length = 1 by omega]; rfl
          have hS0 := HX.out.swap (i := s + 1) (j := s) (x := y) (y := x) (by have := (List.getElem?_eq_some_iff.1 g2).1; exact this) (by have := (List.getElem?_eq_some_iff.1 g1).1; exact this)
          rw [sw2_dn _ _ x y hlen.symm] at hS0
          have HS0 := Lib.hid hS0
          obtain ⟨c10, c11⟩ := HX.out.cell' g1
          obtain ⟨c20, c21⟩ := HX.out.cell' g2
          have z10 := HX.out.frz (s * 2)
          have z11 := HX.out.frz (s * 2 + 1)
          have z20 := HX.out.frz ((s + 1) * 2)
          have z21 := HX.out.frz ((s + 1) * 2 + 1)
          have zl := HX.out.lt.2
          have hc2 := hcap.out.2
          unfold maxLen at hc2
          have HT := Lib.hid (show ((L ++ B1) ++ B2.take k) ++ y :: x :: (B2.drop (k + 1) ++ R) = ((L ++ B1) ++ B2.take k) ++ y :: (B2.drop k ++ R) by rw [hdr]; simp)
          have i1 : (0 : Int) ≤ (s : Int) := by omega
          have i2 : (s : Int) < (N : Int) := by omega
          have i3 : (0 : Int) ≤ (s : Int) + 1 := by omega
          have i4 : (s : Int) + 1 < (N : Int) := by omega
          have e5 : (s : Int) + 1 - 1 = (s : Int) := by omega
          clear g1 g2 hS0 hx hdr htk hlen hk hk1
          obtain ⟨xa, xp⟩ := x
          obtain ⟨ya, yp⟩ := y
          simp only at c10 c11 c20 c21
          go_wp2_with fail
          go_region
          have HF := Lib.hid (And.intro HS0.out (grown_same HG.out (grown_swap (w := wr) (G := G) ((s + 1) * 2) ((s + 1) * 2 + 1) (s * 2) (s * 2 + 1) (.int .i64 xa) (.pointer xp) (.int .i64 ya) (.pointer yp))))
          clear c10 c11 c20 c21 z10 z11 z20 z21 HS0 zl HX HW
          obtain ⟨V, hV⟩ : ∃ V, (((wr.setCell ⟨G, (s + 1) * 2, none⟩ (.int .i64 xa)).setCell ⟨G, (s + 1) * 2 + 1, none⟩ (.pointer xp)).setCell ⟨G, s * 2, none⟩ (.int .i64 ya)).setCell ⟨G, s * 2 + 1, none⟩ (.pointer yp) = V := ⟨_, rfl⟩
          rw [hV] at HF ⊢
          clear hV
          go_wp2_with fail
          exact ⟨⟨s, by omega, by omega, by go_num, Lib.hid (by have := HF.out.1; rw [HT.out] at this; rw [show s - p = k from HKK.out]; exact World.ownsRow.kept this (grown_drew (grown_refl V none)) (Or.inr (by simp [Value.ownBlock]))), Lib.hid (grown_drew HF.out.2)⟩, by simp only [intOf]; omega⟩
        · obtain rfl : r = p := by omega
          go_wp2_with fail
          refine bodyPost_ret (results_none rfl _ _ _) rfl ?_
          refine ⟨rfl, ?_, HG.out⟩
          have hh := HW.out
          rw [Nat.sub_self] at hh
          rw [HBq.out, smerge_in Prod.fst B1 B2 y HK.out.1 HK.out.2]
          simpa using hh
end Go.Proofs.YtanaoohgpdcfjaaGreatDoor
