/- Walk of norm.Between. -/
import Derived.Test.YtbnajjfkkgmflaaBwR
import Derived.Test.YtbnajjfkkgmflaaBwC
import Derived.Test.YtbnajjfkkgmflaaNsB
import Derived.Test.YtbnajjfkkgmflaaTabOf
import Derived.Test.YtbnajjfkkgmflaaShelf
import Derived.Lib.OwnBridge
namespace Go.Proofs.Ytbnajjfkkgmflaa
open Go.RowKit
set_option linter.unusedVariables false
set_option linter.unusedSimpArgs false
attribute [local go_sem ↓] Go.wp_at_zero Go.wp_at_succ
theorem n_isTime (t : Int) (w : World) : Calls Try.prog 10 #[.int .i64 t] w fun e w' => e = .returned (.bool (decide (-1099511627776 ≤ t ∧ t ≤ 1099511627776))) ∧ w = w' := by
  by_cases h1 : -1099511627776 ≤ t
  · by_cases h2 : t ≤ 1099511627776
    · rw [decide_eq_true ⟨h1, h2⟩]
      go_enter Try.func10, Try.ntmps10
      go_wp2_with fail
      go_ret
      exact ⟨by simp [h1, h2], rfl⟩
    · rw [decide_eq_false (fun h => h2 h.2)]
      go_enter Try.func10, Try.ntmps10
      go_wp2_with fail
      go_ret
      exact ⟨by simp [h1, h2], rfl⟩
  · rw [decide_eq_false (fun h => h1 h.1)]
    go_enter Try.func10, Try.ntmps10
    go_wp2_with fail
    go_ret
    exact ⟨by simp [h1], rfl⟩
theorem spAdd_long {S : List Sp} {a b : Int} {p : Sp} (h : S.getLast? = some p) (e : p.2 = a) : spAdd S a b = spLong S b := by rw [spAdd, spLong, h]; exact if_pos e
theorem spAdd_new {S : List Sp} {a b : Int} (h : ∀ p, S.getLast? = some p → p.2 ≠ a) : spAdd S a b = S ++ [(a, b)] := by
  rw [spAdd]
  cases hg : S.getLast? with
  | none => rfl
  | some p => exact if_neg (h p hg)
theorem own_nonil {w : World} {B : Nat} {e : TypeId} {v : Value} {n : Nat} {xs : List Value} (h : w.ownsRow B e 1 v n xs) (hn : xs.length ≠ 0) : v ≠ .slice none 0 0 := by
  rintro rfl
  rcases h.2 with ⟨_, h0⟩ | ⟨g, cap, cur, h1, _⟩
  · have := h.1; rw [h0] at this; omega
  · cases h1
open Go.Sort in
theorem below_put {w : World} {B g q : Nat} {d : Array Int} {os : Array Obj} (hg : B ≤ g) (hB : B ≤ w.heap.size) : Below B w (grow (putRow (Value.int .i64) (Sort.ahead w q) g 0 d) os) := by
  have b1 := Lib.below_putRow (q := q) (d := d) (enc := Value.int .i64) (Below.refl B w) hg
  refine ⟨b1.os, b1.tape, b1.output, Nat.le_trans b1.size (by show _ ≤ (_ ++ os).size; rw [Array.size_append]; omega), fun j hj => ?_⟩
  rw [← b1.block j hj]
  show (_ ++ os)[j]? = _
  exact Array.getElem?_append_left (Nat.lt_of_lt_of_le (Nat.lt_of_lt_of_le hj hB) b1.size)
open Go.Sort in
theorem own_put {w : World} {B g cap q n : Nat} {zs ys : List Int} {os : Array Obj} (h : w.ownsRow B 3 1 (.slice (some ⟨g, 0, none⟩) n cap) n (zs.map (Value.int .i64))) (hy : ys.length = n) :
    (grow (putRow (Value.int .i64) (Sort.ahead w q) g 0 ys.toArray) os).ownsRow B 3 1 (.slice (some ⟨g, 0, none⟩) ys.length cap) ys.length (ys.map (Value.int .i64)) := by
  have h1 := Lib.ownsRow_putRow (q := q) h hy (Nat.le_refl _)
  rw [List.take_of_length_le (by omega)] at h1
  rw [hy]
  refine own_step h1 ⟨rfl, rfl, rfl, ?_, fun j hj => ?_⟩
  · show _ ≤ (_ ++ os).size; rw [Array.size_append]; omega
  · show (_ ++ os)[j]? = _
    exact Array.getElem?_append_left hj
/-- the last span's end among the cells -/
theorem spC_last {S : List Sp} {p : Sp} (h : S.getLast? = some p) : ∃ M, S.length = M + 1 ∧ ((S.map spC).flatten)[M * 2 + 1]? = some (.int .i64 p.2) := by
  obtain ⟨S', rfl⟩ : ∃ S', S = S' ++ [p] := by
    have hne : S ≠ [] := by intro e; rw [e] at h; cases h
    rw [List.getLast?_eq_some_getLast hne] at h
    injection h with h
    exact ⟨S.dropLast, by rw [← h]; exact (List.dropLast_concat_getLast hne).symm⟩
  refine ⟨S'.length, by simp, ?_⟩
  have e2 : (S'.map spC).flatten.length = S'.length * 2 := by rw [flat_len (size := 2) _ spC_len, List.length_map]
  rw [spC_flat, List.getElem?_append_right (by omega), e2, show S'.length * 2 + 1 - S'.length * 2 = 1 by omega]
  rfl
open Go.Sort in
set_option maxRecDepth 100000 in
set_option maxHeartbeats 8000000 in
theorem n_Between_ok (A C A2 C2 : Option Addr) (capT capC capT2 capC2 : Nat) (ts : List Ty) (first : Int) (cs : List Ch) (ts2 : List Ty) (first2 : Int) (cs2 : List Ch) (fr te : Int) (w : World) (H : TabAt w A C capT capC ts cs) (H2 : TabAt w A2 C2 capT2 capC2 ts2 cs2) (K : TabOk ts first cs) (K2 : TabOk ts2 first2 cs2) (hE : bothE ts first cs ts2 first2 cs2 = 0) (hsp : -1099511627776 ≤ fr ∧ te ≤ 1099511627776 ∧ fr ≤ te) :
    Calls Try.prog 4 #[.agg #[.slice A ts.length capT, .int .i64 first, .slice C cs.length capC], .agg #[.slice A2 ts2.length capT2, .int .i64 first2, .slice C2 cs2.length capC2], .agg #[.int .i64 fr, .int .i64 te]] w fun e w' => ∃ v P, e = .returned (.tuple #[v, .int .i64 0]) ∧ w'.ownsRow w.heap.size 27 2 v (runP (bwD ts first cs ts2 first2 cs2) P []).length ((runP (bwD ts first cs ts2 first2 cs2) P []).map spC).flatten ∧ P.Pairwise (· ≤ ·) ∧ (∀ x, x ∈ P ↔ x ∈ bwA fr te (cs ++ cs2)) ∧ Below w.heap.size w w' := by
  have k1 := K.cmax
  have k2 := K2.cmax
  obtain ⟨i0, hi0, hz0, hz1, hz2⟩ := info_parts info_int
  obtain ⟨i2, his, hx0, hx1, hx2⟩ := info_parts info_Sp
  have b1 := (Below.refl w.heap.size w).alloc (Nat.le_refl _) (.cells #[.slice A ts.length capT, .int .i64 first, .slice C cs.length capC] 25)
  have x1 := Blk.new w #[.slice A ts.length capT, .int .i64 first, .slice C cs.length capC] 25
  obtain ⟨W1, hW1⟩ : ∃ W1, w.alloc (.cells #[.slice A ts.length capT, .int .i64 first, .slice C cs.length capC] 25) = W1 := ⟨_, rfl⟩
  have hs1 : W1.heap.size = w.heap.size + 1 := by rw [← hW1, size_alloc]
  rw [hW1] at b1 x1
  have b2 := b1.alloc b1.size (.cells #[.slice A2 ts2.length capT2, .int .i64 first2, .slice C2 cs2.length capC2] 25)
  have x2 := Blk.new' W1 #[.slice A2 ts2.length capT2, .int .i64 first2, .slice C2 cs2.length capC2] 25 hs1.symm
  have x1 := x1.alloc (.cells #[.slice A2 ts2.length capT2, .int .i64 first2, .slice C2 cs2.length capC2] 25)
  obtain ⟨W2, hW2⟩ : ∃ W2, W1.alloc (.cells #[.slice A2 ts2.length capT2, .int .i64 first2, .slice C2 cs2.length capC2] 25) = W2 := ⟨_, rfl⟩
  have hs2 : W2.heap.size = w.heap.size + 1 + 1 := by rw [← hW2, size_alloc, hs1]
  rw [hW2] at b2 x1 x2
  have b3 := b2.alloc b2.size (.cells #[.int .i64 fr, .int .i64 te] 27)
  have x3 := Blk.new' W2 #[.int .i64 fr, .int .i64 te] 27 hs2.symm
  have x1 := x1.alloc (.cells #[.int .i64 fr, .int .i64 te] 27)
  have x2 := x2.alloc (.cells #[.int .i64 fr, .int .i64 te] 27)
  obtain ⟨W3, hW3⟩ : ∃ W3, W2.alloc (.cells #[.int .i64 fr, .int .i64 te] 27) = W3 := ⟨_, rfl⟩
  rw [hW3] at b3 x1 x2 x3
  have HCk := Lib.hid (n_check A C A2 C2 capT capC capT2 capC2 ts first cs ts2 first2 cs2 W3 (H.below b3) (H2.below b3))
  rw [hE] at HCk
  have X1 := Lib.hid x1
  have X2 := Lib.hid x2
  have X3 := Lib.hid x3
  have HB := Lib.hid b3
  obtain ⟨L, hL⟩ : ∃ L, cs ++ cs2 = L := ⟨_, rfl⟩
  have HL := Lib.hid hL
  have hLn : L.length ≤ 2000 := by rw [← hL, List.length_append]; omega
  rw [hL]
  have HT := Lib.hid H
  have HT2 := Lib.hid H2
  have HK := Lib.hid K
  have HK2 := Lib.hid K2
  obtain ⟨D, hD⟩ : ∃ D, bwD ts first cs ts2 first2 cs2 = D := ⟨_, rfl⟩
  have HD := Lib.hid (show ∀ t, D t = !decide (tabOf ts first cs t = tabOf ts2 first2 cs2 t) from fun t => by rw [← hD]; rfl)
  rw [hD]
  clear hD
  have t1 : decide (-1099511627776 ≤ fr ∧ fr ≤ 1099511627776) = true := decide_eq_true (by omega)
  have t2 : decide (-1099511627776 ≤ te ∧ te ≤ 1099511627776) = true := decide_eq_true (by omega)
  have t3 : decide (te < fr) = false := decide_eq_false (by omega)
  clear H H2 K K2 hL b1 b2 b3 x1 x2 x3 hE
  go_enter Try.func4, Try.ntmps4
  go_upto_region 1 with fail
  clear hW1 hW2 hW3 hs1 hs2
  have f1 := X1.out.cell
  have f1l := X1.out.lt
  have f2 := X2.out.cell
  have f2l := X2.out.lt
  have f3 := X3.out.cell
  have f3l := X3.out.lt
  go_wp2_with fail
  refine HCk.out.mono ?_
  rintro e w1 ⟨rfl, hb1⟩
  replace X1 := Lib.hid (X1.out.step hb1)
  replace X2 := Lib.hid (X2.out.step hb1)
  replace X3 := Lib.hid (X3.out.step hb1)
  replace HB := Lib.hid (HB.out.trans (hb1.mono HB.out.size))
  clear hb1 HCk f1 f1l f2 f2l f3 f3l
  have f1 := X1.out.cell
  have f1l := X1.out.lt
  have f2 := X2.out.cell
  have f2l := X2.out.lt
  have f3 := X3.out.cell
  have f3l := X3.out.lt
  go_upto_region 6 with (go_at_call 10; refine (n_isTime _ _).mono ?_; rintro e w' ⟨rfl, rfl⟩)
  clear t1 t2 t3
  have HO := Lib.hid (World.ownsRow_lit (base := w.heap.size) (e := 3) (size := 1) w1 #[.int .i64 fr, .int .i64 te] 2 HB.out.size (by unfold maxLen; omega) (by simp))
  replace X1 := Lib.hid (X1.out.alloc (.cells #[.int .i64 fr, .int .i64 te] 3))
  replace X2 := Lib.hid (X2.out.alloc (.cells #[.int .i64 fr, .int .i64 te] 3))
  replace X3 := Lib.hid (X3.out.alloc (.cells #[.int .i64 fr, .int .i64 te] 3))
  replace HB := Lib.hid (HB.out.alloc HB.out.size (.cells #[.int .i64 fr, .int .i64 te] 3))
  go_upto_region 7 with fail
  clear f1 f1l f2 f2l f3 f3l
  obtain ⟨W4, hW4⟩ : ∃ W, w1.alloc (.cells #[.int .i64 fr, .int .i64 te] 3) = W := ⟨_, rfl⟩
  obtain ⟨g4, hg4⟩ : ∃ g, w1.heap.size = g := ⟨_, rfl⟩
  rw [hW4] at HO X1 X2 X3 HB ⊢
  rw [hg4] at HO ⊢
  clear hW4 hg4
  have f1 := X1.out.cell
  have f1l := X1.out.lt
  have f2 := X2.out.cell
  have f2l := X2.out.lt
  have f3 := X3.out.cell
  have f3l := X3.out.lt
  have XC := TK.box W4 #[.slice C cs.length capC, .slice C2 cs2.length capC2] 23
  have hbc := HB.out.trans (XC.2.2.mono HB.out.size)
  have HCc := Lib.hid (s_Concat C C2 capC capC2 cs cs2 W4.heap.size _ (HT.out.below hbc).C (HT2.out.below hbc).C k1 k2 XC.2.1 (XC.1 0) (XC.1 1))
  rw [HL.out] at HCc
  go_wp2_with fail
  refine HCc.out.mono ?_
  rintro e w6 ⟨v6, rfl, hO6, hb6⟩
  have hb6' := XC.2.2.trans (hb6.mono XC.2.2.size)
  obtain ⟨A6, cap6, rfl, g61, g62, hA6⟩ := own_at (xss := L.map chCells) (by simpa using hO6) (by intro xs hx; obtain ⟨c, _, rfl⟩ := List.mem_map.1 hx; rfl)
  rw [List.length_map] at g61 ⊢
  obtain ⟨B6, hB6⟩ : ∃ n, (W4.alloc (.cells #[.slice C cs.length capC, .slice C2 cs2.length capC2] 23)).heap.size = n := ⟨_, rfl⟩
  rw [hB6, List.length_map] at hO6
  have HC := Lib.hid hO6
  have HO6 := Lib.hid (own_step HO.out hb6')
  replace X1 := Lib.hid (X1.out.step hb6')
  replace X2 := Lib.hid (X2.out.step hb6')
  replace X3 := Lib.hid (X3.out.step hb6')
  replace HB := Lib.hid (HB.out.trans (hb6'.mono HB.out.size))
  clear hO6 hb6 hb6' hbc XC HCc hA6 g61 g62 HO hB6 f1 f1l f2 f2l f3 f3l
  go_wp2_with fail
  go_loopw [9, 52] (fun v i wr => ∃ (k : Nat) (I : List Int), k ≤ L.length ∧ i = .int .i64 k ∧ I = bwA fr te (L.take k) ∧ Hid (wr.ownsRow w.heap.size 3 1 v I.length (I.map inCells).flatten) ∧ Hid (wr.ownsRow B6 42 2 (.slice A6 L.length cap6) L.length (L.map chCells).flatten) ∧ Hid (Blk wr w.heap.size 25 #[.slice A ts.length capT, .int .i64 first, .slice C cs.length capC]) ∧ Hid (Blk wr (w.heap.size + 1) 25 #[.slice A2 ts2.length capT2, .int .i64 first2, .slice C2 cs2.length capC2]) ∧ Hid (Blk wr (w.heap.size + 1 + 1) 27 #[.int .i64 fr, .int .i64 te]) ∧ Hid (Below w.heap.size w wr)) (fun _ i _ => L.length - (intOf i).toNat)
  case atStart => exact ⟨0, [fr, te], Nat.zero_le _, rfl, rfl, HO6, HC, X1, X2, X3, HB⟩
  case round =>
    clear HO6 HC X1 X2 X3 HB
    obtain ⟨k, I, hk, rfl, hI, HO, HC, X1, X2, X3, HB⟩ := hrel
    have hIl : I.length ≤ 2002 := by have := bwA_len fr te (L.take k); rw [← hI, List.length_take] at this; omega
    have hbz := HB.out.size
    by_cases hlt : k < L.length
    · obtain ⟨Ax, capx, hvx, gx1, gx2, hAx⟩ := own_at (xss := L.map chCells) (by simpa using HC.out) (by intro xs hx; obtain ⟨c, _, rfl⟩ := List.mem_map.1 hx; rfl)
      rw [List.length_map] at hvx gx1
      cases hvx
      obtain ⟨b, o, rfl, hb', c0, c1⟩ := ch_at hAx hlt
      have hi1 : (0 : Int) ≤ (k : Int) := by omega
      have hi2 : (k : Int) < (L.length : Int) := by omega
      have hsn := bwA_snoc (fr := fr) (te := te) hlt
      rw [← hI] at hsn
      obtain ⟨⟨a, ty⟩, hc⟩ : ∃ c, L[k] = c := ⟨_, rfl⟩
      simp only [hc] at c0 c1 hsn
      clear hc hAx hI
      have f3 := X3.out.cell
      have f3l := X3.out.lt
      have HSN := Lib.hid hsn
      clear hsn
      cases hbi : bwIn fr te (a, ty) with
      | true =>
        have p1 : decide (fr < a) = true := by unfold bwIn at hbi; rw [Bool.and_eq_true] at hbi; exact hbi.1
        have p2 : decide (a < te) = true := by unfold bwIn at hbi; rw [Bool.and_eq_true] at hbi; exact hbi.2
        have HS2 := Lib.hid (show I ++ [a] = bwA fr te (L.take (k + 1)) by rw [HSN.out, hbi]; rfl)
        clear hbi HSN
        go_wp2_with (at_builtin; refine wpList_append_lies _ rfl _ _ _ rfl w.heap.size 3 i0 _ 1 8 Try.underlying39 hi0 hz0 hz1 hz2 rfl (by omega) u9 I.length _ rfl ((HO.out.alloc (.cells #[.int .i64 a, .int .i64 ty] 42)).alloc (.cells #[.int .i64 a] 3)) ⟨wr.heap.size + 1, 0, none⟩ 1 1 (inCells a) rfl rfl (World.news_of_block (cs := (inCells a).toArray) (t := 3) (fr := (0, 0)) (Blk.new' _ _ _ (by simp))) (by simp [Value.oneCell', inCells]) (by omega) (by unfold maxLen; omega) (by omega) (by simp; omega) (wr.heap.size + 2) (by simp) ?_; intro gg cap9 w9 hown9 hgrow hat hlt9)
        have HOa := (HO.out.alloc (.cells #[.int .i64 a, .int .i64 ty] 42)).alloc (.cells #[.int .i64 a] 3)
        have X19 := Lib.hid (Blk.grown' hgrow ((X1.out.alloc (.cells #[.int .i64 a, .int .i64 ty] 42)).alloc (.cells #[.int .i64 a] 3)) (Blk.own_ne ((X1.out.alloc _).alloc _) HOa (by decide)))
        have X29 := Lib.hid (Blk.grown' hgrow ((X2.out.alloc (.cells #[.int .i64 a, .int .i64 ty] 42)).alloc (.cells #[.int .i64 a] 3)) (Blk.own_ne ((X2.out.alloc _).alloc _) HOa (by decide)))
        have X39 := Lib.hid (Blk.grown' hgrow ((X3.out.alloc (.cells #[.int .i64 a, .int .i64 ty] 42)).alloc (.cells #[.int .i64 a] 3)) (Blk.own_ne ((X3.out.alloc _).alloc _) HOa (by decide)))
        have hba := (HB.out.alloc hbz (.cells #[.int .i64 a, .int .i64 ty] 42)).alloc (by simp; omega) (.cells #[.int .i64 a] 3)
        have HB9 := Lib.hid (hba.trans (below_app hba.size HOa hgrow))
        have HCa := (HC.out.alloc (.cells #[.int .i64 a, .int .i64 ty] 42)).alloc (.cells #[.int .i64 a] 3)
        have HC9 := Lib.hid (HCa.kept hgrow (own_ne HCa HOa (by decide)))
        have HO9 := Lib.hid (show w9.ownsRow w.heap.size 3 1 (.slice (some ⟨gg, 0, none⟩) (I.length + 1) cap9) (I ++ [a]).length ((I ++ [a]).map inCells).flatten by rw [in_flat1, List.length_append]; exact hown9)
        exact ⟨⟨k + 1, I ++ [a], by omega, by go_num, HS2.out, HO9, HC9, X19, X29, X39, HB9⟩, by simp [intOf]; omega⟩
      | false =>
        have HS2 := Lib.hid (show I = bwA fr te (L.take (k + 1)) by rw [HSN.out, hbi]; rfl)
        have hb0 := (Below.refl wr.heap.size wr).alloc (Nat.le_refl _) (.cells #[.int .i64 a, .int .i64 ty] 42)
        have X19 := Lib.hid (X1.out.step hb0)
        have X29 := Lib.hid (X2.out.step hb0)
        have X39 := Lib.hid (X3.out.step hb0)
        have HB9 := Lib.hid (HB.out.trans (hb0.mono hbz))
        have HC9 := Lib.hid (own_step HC.out hb0)
        have HO9 := Lib.hid (own_step HO.out hb0)
        by_cases p1 : fr < a
        · have p2 : decide (a < te) = false := by unfold bwIn at hbi; rw [decide_eq_true p1] at hbi; simpa using hbi
          replace p1 := decide_eq_true p1
          clear hbi HSN HO HC X1 X2 X3 HB
          go_wp2_with fail
          exact ⟨⟨k + 1, I, by omega, by go_num, HS2.out, HO9, HC9, X19, X29, X39, HB9⟩, by simp [intOf]; omega⟩
        · replace p1 := decide_eq_false p1
          clear hbi HSN HO HC X1 X2 X3 HB
          go_wp2_with fail
          exact ⟨⟨k + 1, I, by omega, by go_num, HS2.out, HO9, HC9, X19, X29, X39, HB9⟩, by simp [intOf]; omega⟩
    · obtain rfl : k = L.length := by omega
      rw [List.take_length] at hI
      have hne : I ≠ [] := by rw [hI]; unfold bwA; simp
      have HI2 := Lib.hid (show 2 ≤ I.length by rw [hI]; unfold bwA; simp)
      have hO := HO.out
      rw [in_flat] at hO
      obtain ⟨g7, cap7, rfl, hgb, hgl, o1, o2, _, hH⟩ := Lib.holds_of_ownsRow hO (own_nonil hO (by rw [List.length_map]; exact fun h => hne (List.length_eq_zero_iff.1 h)))
      have HSr := Lib.hid (Try.slices_Sort_int g7 0 cap7 I wr hH hgl (by omega))
      obtain ⟨P, hP⟩ : ∃ P, (I.mergeSort fun x y => decide (x ≤ y)) = P := ⟨_, rfl⟩
      have hpl : P.length = I.length := by rw [← hP]; exact List.length_mergeSort I
      have HRi := Lib.hid (show P.Pairwise (· ≤ ·) by rw [← hP]; exact (List.pairwise_mergeSort (fun a b c h1 h2 => by simp only [decide_eq_true_eq] at *; omega) (fun a b => by simp only [Bool.or_eq_true, decide_eq_true_eq]; omega) I).imp (fun h => by simpa using h))
      have HMe := Lib.hid (show ∀ x, x ∈ P ↔ x ∈ bwA fr te L from fun x => by rw [← hP, ← hI]; exact (List.mergeSort_perm I _).mem_iff)
      rw [hP] at HSr
      have HOw := Lib.hid hO
      have HPl := Lib.hid hpl
      clear hO hP hI HO HC hH X3 hpl
      go_wp2_with fail
      refine HSr.out.mono ?_
      rintro e w8 ⟨rfl, nn, os, rfl⟩
      have hOp := own_put (os := os) (q := nn) HOw.out HPl.out
      have hn1 := Blk.own_ne X1.out HOw.out (by decide)
      have hn2 := Blk.own_ne X2.out HOw.out (by decide)
      have hgg : w.heap.size + 1 < g7 := by have q1 : g7 ≠ w.heap.size := fun h => hn1 (by rw [h]; rfl); have q2 : g7 ≠ w.heap.size + 1 := fun h => hn2 (by rw [h]; rfl); omega
      have hb8 := below_put (q := nn) (d := P.toArray) (os := os) (w := wr) (Nat.le_refl g7) (Nat.le_of_lt hgl)
      have X18 := Lib.hid (X1.out.below hb8 (by omega))
      have X28 := Lib.hid (X2.out.below hb8 (by omega))
      have HB8 := Lib.hid (HB.out.trans (hb8.mono (by omega)))
      have HO8 := Lib.hid hOp
      have hpl := HPl.out
      have h2I : 2 ≤ I.length := by have := HI2.out; omega
      obtain ⟨W8, hW8⟩ : ∃ W, grow (putRow (Value.int .i64) (Sort.ahead wr nn) g7 0 P.toArray) os = W := ⟨_, rfl⟩
      rw [hW8] at X18 X28 HB8 HO8 ⊢
      rw [← hpl]
      have hPn : P.length ≤ 2002 := by omega
      have hP2 : 2 ≤ P.length := by omega
      have hpc : (P.length : Int) ≤ (cap7 : Int) := by omega
      clear hOp hn1 hn2 hgg hb8 hW8 HOw HSr X1 X2 HB hpl HPl hne h2I HI2 hIl hbz
      go_wp2_with fail
      go_loopw [12, 13] (fun ov iv wr => ∃ (k : Nat) (S : List Sp), k + 1 ≤ P.length ∧ iv = .int .i64 ((k : Int) + 1) ∧ S.length ≤ k ∧ Hid (runP D (P.drop k) S = runP D P []) ∧ Hid (wr.ownsRow w.heap.size 27 2 ov S.length (S.map spC).flatten) ∧ Hid (wr.ownsRow w.heap.size 3 1 (.slice (some ⟨g7, 0, none⟩) P.length cap7) P.length (P.map (Value.int .i64))) ∧ Hid (Blk wr w.heap.size 25 #[.slice A ts.length capT, .int .i64 first, .slice C cs.length capC]) ∧ Hid (Blk wr (w.heap.size + 1) 25 #[.slice A2 ts2.length capT2, .int .i64 first2, .slice C2 cs2.length capC2]) ∧ Hid (Below w.heap.size w wr)) (fun _ iv _ => P.length - (intOf iv).toNat)
      case atStart => exact ⟨0, [], by omega, rfl, Nat.le_refl _, Lib.hid rfl, Lib.hid (World.ownsRow_nil _ _ _ _), HO8, X18, X28, HB8⟩
      case round =>
        clear HO8 X18 X28 HB8
        obtain ⟨k, S, hk, rfl, hSl, HRn, HOv, HOo, X1, X2, HB⟩ := hrel
        have hbz := HB.out.size
        by_cases hlt : k + 1 < P.length
        · obtain ⟨_, _, hq0, _, _, hA⟩ := own_in HOo.out
          cases hq0
          obtain ⟨_, _, hq1, _, c0⟩ := in_at hA (show k < P.length by omega)
          cases hq1
          obtain ⟨_, _, hq2, _, c1⟩ := in_at hA hlt
          cases hq2
          rw [Nat.zero_add] at c0 c1
          have HDr := Lib.hid (show P.drop k = P[k] :: P.drop (k + 1) from List.drop_eq_getElem_cons (by omega))
          have HDr2 := Lib.hid (show P.drop (k + 1) = P[k + 1] :: P.drop (k + 1 + 1) from List.drop_eq_getElem_cons (by omega))
          obtain ⟨t, ht⟩ : ∃ t, P[k] = t := ⟨_, rfl⟩
          obtain ⟨nx, hnx⟩ : ∃ t, P[k + 1] = t := ⟨_, rfl⟩
          rw [ht] at c0 HDr
          rw [hnx] at c1 HDr2
          clear ht hnx hA
          have HRn2 := Lib.hid (show runP D (P.drop (k + 1)) (if t = nx ∨ D t = false then S else spAdd S t nx) = runP D P [] by rw [← HRn.out, HDr.out, HDr2.out, runP])
          clear HRn HDr HDr2
          have hj1 : (0 : Int) ≤ (k : Int) := by omega
          have hj2 : (k : Int) < (P.length : Int) := by omega
          have hj3 : (0 : Int) ≤ (k : Int) + 1 := by omega
          have hj4 : (k : Int) + 1 < (P.length : Int) := by omega
          have hj5 : IntKind.i64.wrap ((k : Int) + 1 - 1) = (k : Int) := by rw [Int.add_sub_cancel]; exact IntWalk.i64_in _ (by omega)
          have hj6 : IntKind.i64.wrap (k : Int) = (k : Int) := IntWalk.i64_in _ (by omega)
          have hj7 : IntKind.i64.wrap ((k : Int) + 1 + 1) = (k : Int) + 1 + 1 := IntWalk.i64_in _ (by omega)
          have hj8 : ((k : Int) + 1).toNat = k + 1 := by omega
          go_wp2_with fail
          go_quiet (fail)
          go_upto_region 19 with fail
          have hdn : Below wr.heap.size wr (wr.drewN nq) := ⟨rfl, rfl, rfl, Nat.le_refl _, fun _ _ => rfl⟩
          replace HOv := Lib.hid (own_step HOv.out hdn)
          replace HOo := Lib.hid (own_step HOo.out hdn)
          replace X1 := Lib.hid (X1.out.step hdn)
          replace X2 := Lib.hid (X2.out.step hdn)
          replace HB := Lib.hid (HB.out.trans (hdn.mono hbz))
          clear hdn hbz c0 c1
          obtain ⟨wz, hwz⟩ : ∃ z, wr.drewN nq = z := ⟨_, rfl⟩
          rw [hwz] at HOv HOo X1 X2 HB ⊢
          clear hwz
          have hbz := HB.out.size
          have f1 := X1.out.cell
          have f1l := X1.out.lt
          have f2 := X2.out.cell
          have f2l := X2.out.lt
          by_cases htn : t = nx
          · have hd : decide (t = nx) = true := decide_eq_true htn
            have hd2 : (t == nx) = true := beq_iff_eq.2 htn
            rw [if_pos (Or.inl htn)] at HRn2
            have HDD := Lib.hid htn
            clear htn
            refine wp_region_noPanic ?_
            refine wp_region_held_drew (S := fun W' : World => Below wz.heap.size wz W') (by kernel_rfl) (Below.refl _ _).drew (fun hHeld0 => ?_)
            have hHeld : Below wz.heap.size wz wz.drew := hHeld0
            clear hHeld0
            refine wpAnyH_take (i := 0) (v := ?_) rfl (by kernel_rfl) (by kernel_rfl) (by kernel_rfl) (fun _ _ _ h => h) (Or.inl ⟨by rfl, ?_⟩) hHeld ?_
            rotate_left
            · intro wq hSw
              go_simp
              try with_reducible rfl
            try simp only [Act.put, List.getElem_toArray, List.getElem_cons_succ, List.getElem_cons_zero, List.setIfInBounds_toArray, List.set_cons_zero, List.set_cons_succ]
            refine wpAnyH_take (i := 1) (v := ?_) rfl (by kernel_rfl) (by kernel_rfl) (by kernel_rfl) (fun _ _ _ h => h) (Or.inl ⟨by rfl, ?_⟩) hHeld ?_
            rotate_left
            · intro wq hSw
              go_simp
              try with_reducible rfl
            try simp only [Act.put, List.getElem_toArray, List.getElem_cons_succ, List.getElem_cons_zero, List.setIfInBounds_toArray, List.set_cons_zero, List.set_cons_succ]
            refine wpAnyH_take (i := 2) (v := ?_) rfl (by kernel_rfl) (by kernel_rfl) (by kernel_rfl) (fun _ _ _ h => h) (Or.inl ⟨by rfl, ?_⟩) hHeld ?_
            rotate_left
            · intro wq hSw
              go_simp
              try with_reducible rfl
            try simp only [Act.put, List.getElem_toArray, List.getElem_cons_succ, List.getElem_cons_zero, List.setIfInBounds_toArray, List.set_cons_zero, List.set_cons_succ]
            refine wpAnyH_take (i := 3) (v := ?_) rfl (by kernel_rfl) (by kernel_rfl) (by kernel_rfl) (fun _ _ _ h => h) (Or.inl ⟨by rfl, ?_⟩) hHeld ?_
            rotate_left
            · intro wq hSw
              go_simp
              try with_reducible rfl
            try simp only [Act.put, List.getElem_toArray, List.getElem_cons_succ, List.getElem_cons_zero, List.setIfInBounds_toArray, List.set_cons_zero, List.set_cons_succ]
            refine wpAnyH_take (i := 4) (v := undef) rfl (by kernel_rfl) (by kernel_rfl) (by kernel_rfl) (fun _ _ _ h => h) (Or.inr ⟨by kernel_rfl, rfl⟩) hHeld ?_
            try simp only [Act.put, List.getElem_toArray, List.getElem_cons_succ, List.getElem_cons_zero, List.setIfInBounds_toArray, List.set_cons_zero, List.set_cons_succ]
            refine wpAnyH_take (i := 5) (v := undef) rfl (by kernel_rfl) (by kernel_rfl) (by kernel_rfl) (fun _ _ _ h => h) (Or.inr ⟨by kernel_rfl, rfl⟩) hHeld ?_
            try simp only [Act.put, List.getElem_toArray, List.getElem_cons_succ, List.getElem_cons_zero, List.setIfInBounds_toArray, List.set_cons_zero, List.set_cons_succ]
            refine wpAnyH_take (i := 6) (v := undef) rfl (by kernel_rfl) (by kernel_rfl) (by kernel_rfl) (fun _ _ _ h => h) (Or.inr ⟨by kernel_rfl, rfl⟩) hHeld ?_
            try simp only [Act.put, List.getElem_toArray, List.getElem_cons_succ, List.getElem_cons_zero, List.setIfInBounds_toArray, List.set_cons_zero, List.set_cons_succ]
            refine wpAnyH_take (i := 7) (v := undef) rfl (by kernel_rfl) (by kernel_rfl) (by kernel_rfl) (fun _ _ _ h => h) (Or.inr ⟨by kernel_rfl, rfl⟩) hHeld ?_
            try simp only [Act.put, List.getElem_toArray, List.getElem_cons_succ, List.getElem_cons_zero, List.setIfInBounds_toArray, List.set_cons_zero, List.set_cons_succ]
            refine wpAnyH_take (i := 8) (v := undef) rfl (by kernel_rfl) (by kernel_rfl) (by kernel_rfl) (fun _ _ _ h => h) (Or.inr ⟨by kernel_rfl, rfl⟩) hHeld ?_
            try simp only [Act.put, List.getElem_toArray, List.getElem_cons_succ, List.getElem_cons_zero, List.setIfInBounds_toArray, List.set_cons_zero, List.set_cons_succ]
            refine wpAnyH_take (i := 9) (v := undef) rfl (by kernel_rfl) (by kernel_rfl) (by kernel_rfl) (fun _ _ _ h => h) (Or.inr ⟨by kernel_rfl, rfl⟩) hHeld ?_
            try simp only [Act.put, List.getElem_toArray, List.getElem_cons_succ, List.getElem_cons_zero, List.setIfInBounds_toArray, List.set_cons_zero, List.set_cons_succ]
            refine wpAnyH_take (i := 10) (v := undef) rfl (by kernel_rfl) (by kernel_rfl) (by kernel_rfl) (fun _ _ _ h => h) (Or.inr ⟨by kernel_rfl, rfl⟩) hHeld ?_
            try simp only [Act.put, List.getElem_toArray, List.getElem_cons_succ, List.getElem_cons_zero, List.setIfInBounds_toArray, List.set_cons_zero, List.set_cons_succ]
            refine wpAnyH_take (i := 11) (v := ?_) rfl (by kernel_rfl) (by kernel_rfl) (by kernel_rfl) (fun _ _ _ h => h) (Or.inl ⟨by rfl, ?_⟩) hHeld ?_
            rotate_left
            · intro wq hSw
              go_simp
              try with_reducible rfl
            try simp only [Act.put, List.getElem_toArray, List.getElem_cons_succ, List.getElem_cons_zero, List.setIfInBounds_toArray, List.set_cons_zero, List.set_cons_succ]
            refine wpAnyH_done (by kernel_rfl) ?_ _
            refine NoPanic.normal ?_
            have HOv8 := Lib.hid (own_step HOv.out hHeld)
            have HOo8 := Lib.hid (own_step HOo.out hHeld)
            have X18 := Lib.hid (X1.out.step hHeld)
            have X28 := Lib.hid (X2.out.step hHeld)
            have HB8 := Lib.hid (HB.out.trans (hHeld.mono hbz))
            have hbz8 := HB8.out.size
            clear hHeld f1 f1l f2 f2l HOv HOo X1 X2 HB hbz
            go_wp2_with fail
            exact ⟨⟨k + 1, S, by omega, by go_num, by omega, HRn2, HOv8, HOo8, X18, X28, HB8⟩, by simp [intOf]; omega⟩
          · have hd : decide (t = nx) = false := decide_eq_false htn
            have hd2 : (t == nx) = false := beq_eq_false_iff_ne.2 htn
            obtain ⟨x, hx⟩ : ∃ x, tabOf ts first cs t = x := ⟨_, rfl⟩
            obtain ⟨y, hy⟩ : ∃ y, tabOf ts2 first2 cs2 t = y := ⟨_, rfl⟩
            have HDt := Lib.hid (show D t = !decide (x = y) by rw [HD.out, hx, hy])
            have HF1 := Lib.hid (fun (V : World) (hb : Below w.heap.size w V) => (show Calls Try.prog 13 #[.agg #[.slice A ts.length capT, .int .i64 first, .slice C cs.length capC], .int .i64 t] V (fun e w' => e = .returned (tyV x) ∧ Below V.heap.size V w') by rw [← hx]; exact t_Of A C capT capC ts first cs t V (HT.out.below hb) HK.out))
            have HF2 := Lib.hid (fun (V : World) (hb : Below w.heap.size w V) => (show Calls Try.prog 13 #[.agg #[.slice A2 ts2.length capT2, .int .i64 first2, .slice C2 cs2.length capC2], .int .i64 t] V (fun e w' => e = .returned (tyV y) ∧ Below V.heap.size V w') by rw [← hy]; exact t_Of A2 C2 capT2 capC2 ts2 first2 cs2 t V (HT2.out.below hb) HK2.out))
            clear hx hy
            have heq := run_eq_ty x y
            refine wp_region_noPanic ?_
            refine wp_region_held_drew (S := fun W' : World => Below wz.heap.size wz W') (by kernel_rfl) (Below.refl _ _).drew (fun hHeld0 => ?_)
            have hHeld : Below wz.heap.size wz wz.drew := hHeld0
            clear hHeld0
            refine wpAnyH_take (i := 0) (v := ?_) rfl (by kernel_rfl) (by kernel_rfl) (by kernel_rfl) (fun _ _ _ h => h) (Or.inl ⟨by rfl, ?_⟩) hHeld ?_
            rotate_left
            · intro wq hSw
              go_simp
              try with_reducible rfl
            try simp only [Act.put, List.getElem_toArray, List.getElem_cons_succ, List.getElem_cons_zero, List.setIfInBounds_toArray, List.set_cons_zero, List.set_cons_succ]
            refine wpAnyH_take (i := 1) (v := ?_) rfl (by kernel_rfl) (by kernel_rfl) (by kernel_rfl) (fun _ _ _ h => h) (Or.inl ⟨by rfl, ?_⟩) hHeld ?_
            rotate_left
            · intro wq hSw
              go_simp
              try with_reducible rfl
            try simp only [Act.put, List.getElem_toArray, List.getElem_cons_succ, List.getElem_cons_zero, List.setIfInBounds_toArray, List.set_cons_zero, List.set_cons_succ]
            refine wpAnyH_take (i := 2) (v := ?_) rfl (by kernel_rfl) (by kernel_rfl) (by kernel_rfl) (fun _ _ _ h => h) (Or.inl ⟨by rfl, ?_⟩) hHeld ?_
            rotate_left
            · intro wq hSw
              go_simp
              try with_reducible rfl
            try simp only [Act.put, List.getElem_toArray, List.getElem_cons_succ, List.getElem_cons_zero, List.setIfInBounds_toArray, List.set_cons_zero, List.set_cons_succ]
            refine wpAnyH_take (i := 3) (v := ?_) rfl (by kernel_rfl) (by kernel_rfl) (by kernel_rfl) (fun _ _ _ h => h) (Or.inl ⟨by rfl, ?_⟩) hHeld ?_
            rotate_left
            · intro wq hSw
              go_simp
              try with_reducible rfl
            try simp only [Act.put, List.getElem_toArray, List.getElem_cons_succ, List.getElem_cons_zero, List.setIfInBounds_toArray, List.set_cons_zero, List.set_cons_succ]
            refine wpAnyH_take (i := 4) (v := ?_) rfl (by kernel_rfl) (by kernel_rfl) (by kernel_rfl) (fun _ _ _ h => h) (Or.inl ⟨by rfl, ?_⟩) hHeld ?_
            rotate_left
            · intro wq hSw
              have q1 := fun i => (hSw.cell (p := ⟨w.heap.size, i, none⟩) f1l).trans (f1 i)
              have q2 := fun i => (hSw.cell (p := ⟨w.heap.size + 1, i, none⟩) f2l).trans (f2 i)
              go_simp
              try with_reducible rfl
            try simp only [Act.put, List.getElem_toArray, List.getElem_cons_succ, List.getElem_cons_zero, List.setIfInBounds_toArray, List.set_cons_zero, List.set_cons_succ]
            refine wpAnyH_take (i := 5) (v := ?_) rfl (by kernel_rfl) (by kernel_rfl) (by kernel_rfl) (fun _ _ _ h => h) (Or.inl ⟨by rfl, ?_⟩) hHeld ?_
            rotate_left
            · intro wq hSw
              have q1 := fun i => (hSw.cell (p := ⟨w.heap.size, i, none⟩) f1l).trans (f1 i)
              have q2 := fun i => (hSw.cell (p := ⟨w.heap.size + 1, i, none⟩) f2l).trans (f2 i)
              go_simp
              try with_reducible rfl
            try simp only [Act.put, List.getElem_toArray, List.getElem_cons_succ, List.getElem_cons_zero, List.setIfInBounds_toArray, List.set_cons_zero, List.set_cons_succ]
            refine wpAnyH_take (i := 7) (v := ?_) rfl (by kernel_rfl) (by kernel_rfl) (by kernel_rfl) (fun _ _ _ h => h) (Or.inl ⟨by rfl, ?_⟩) hHeld ?_
            rotate_left
            · intro wq hSw
              have q1 := fun i => (hSw.cell (p := ⟨w.heap.size, i, none⟩) f1l).trans (f1 i)
              have q2 := fun i => (hSw.cell (p := ⟨w.heap.size + 1, i, none⟩) f2l).trans (f2 i)
              go_simp
              try with_reducible rfl
            try simp only [Act.put, List.getElem_toArray, List.getElem_cons_succ, List.getElem_cons_zero, List.setIfInBounds_toArray, List.set_cons_zero, List.set_cons_succ]
            refine wpAnyH_take (i := 8) (v := ?_) rfl (by kernel_rfl) (by kernel_rfl) (by kernel_rfl) (fun _ _ _ h => h) (Or.inl ⟨by rfl, ?_⟩) hHeld ?_
            rotate_left
            · intro wq hSw
              have q1 := fun i => (hSw.cell (p := ⟨w.heap.size, i, none⟩) f1l).trans (f1 i)
              have q2 := fun i => (hSw.cell (p := ⟨w.heap.size + 1, i, none⟩) f2l).trans (f2 i)
              go_simp
              try with_reducible rfl
            try simp only [Act.put, List.getElem_toArray, List.getElem_cons_succ, List.getElem_cons_zero, List.setIfInBounds_toArray, List.set_cons_zero, List.set_cons_succ]
            refine wpAnyH_ready (rs := [6]) (by kernel_rfl) (by simp) ?_
            refine AllReadyH.cons rfl (fun K hK => ?_) AllReadyH.nil
            go_simp
            go_at_call 13
            refine (HF1.out _ (HB.out.trans (hHeld.mono hbz))).mono ?_
            rintro e w8 ⟨rfl, hb8⟩
            have hS8 := hHeld.trans (hb8.mono hHeld.size)
            try go_wp2_with fail
            refine hK.out _ _ hS8 (fun hHeld2 => ?_)
            clear hK K hHeld hb8
            have hHeld := hS8
            clear hS8 hHeld2
            try simp only [Act.put, List.getElem_toArray, List.getElem_cons_succ, List.getElem_cons_zero, List.setIfInBounds_toArray, List.set_cons_zero, List.set_cons_succ]
            refine wpAnyH_ready (rs := [9]) (by kernel_rfl) (by simp) ?_
            refine AllReadyH.cons rfl (fun K hK => ?_) AllReadyH.nil
            go_simp
            go_at_call 13
            refine (HF2.out _ (HB.out.trans (hHeld.mono hbz))).mono ?_
            rintro e w8 ⟨rfl, hb8⟩
            have hS8 := hHeld.trans (hb8.mono hHeld.size)
            try go_wp2_with fail
            refine hK.out _ _ hS8 (fun hHeld2 => ?_)
            clear hK K hHeld hb8
            have hHeld := hS8
            clear hS8 hHeld2
            try simp only [Act.put, List.getElem_toArray, List.getElem_cons_succ, List.getElem_cons_zero, List.setIfInBounds_toArray, List.set_cons_zero, List.set_cons_succ]
            obtain ⟨q, hq⟩ : ∃ q, decide (x = y) = q := ⟨_, rfl⟩
            rw [hq] at heq HDt
            refine wpAnyH_take (i := 10) (v := ?_) rfl (by kernel_rfl) (by kernel_rfl) (by kernel_rfl) (fun _ _ _ h => h) (Or.inl ⟨by rfl, ?_⟩) hHeld ?_
            rotate_left
            · intro wq hSw
              go_simp
              try with_reducible rfl
            try simp only [Act.put, List.getElem_toArray, List.getElem_cons_succ, List.getElem_cons_zero, List.setIfInBounds_toArray, List.set_cons_zero, List.set_cons_succ]
            refine wpAnyH_take (i := 11) (v := ?_) rfl (by kernel_rfl) (by kernel_rfl) (by kernel_rfl) (fun _ _ _ h => h) (Or.inl ⟨by rfl, ?_⟩) hHeld ?_
            rotate_left
            · intro wq hSw
              go_simp
              try with_reducible rfl
            try simp only [Act.put, List.getElem_toArray, List.getElem_cons_succ, List.getElem_cons_zero, List.setIfInBounds_toArray, List.set_cons_zero, List.set_cons_succ]
            refine wpAnyH_done (by kernel_rfl) ?_ _
            refine NoPanic.normal ?_
            have HOv8 := Lib.hid (own_step HOv.out hHeld)
            have HOo8 := Lib.hid (own_step HOo.out hHeld)
            have X18 := Lib.hid (X1.out.step hHeld)
            have X28 := Lib.hid (X2.out.step hHeld)
            have HB8 := Lib.hid (HB.out.trans (hHeld.mono hbz))
            have hbz8 := HB8.out.size
            clear hHeld HF1 HF2 f1 f1l f2 f2l HOv HOo X1 X2 HB heq hbz
            cases q with
            | true =>
              have HDf := Lib.hid (show D t = false by rw [HDt.out]; rfl)
              rw [if_pos (Or.inr HDf.out)] at HRn2
              clear HDt HDf hq
              go_wp2_with fail
              exact ⟨⟨k + 1, S, by omega, by go_num, by omega, HRn2, HOv8, HOo8, X18, X28, HB8⟩, by simp [intOf]; omega⟩
            | false =>
              have HDf := Lib.hid (show D t = true by rw [HDt.out]; rfl)
              rw [if_neg (fun h => h.elim htn (fun h => by rw [HDf.out] at h; cases h))] at HRn2
              clear HDt HDf hq htn
              rcases Nat.eq_zero_or_pos S.length with hS0 | hS0
              · have hm0 : (S.length : Int) - 1 = -1 := by omega
                have hm1 : IntKind.i64.wrap ((S.length : Int) - 1) = -1 := by rw [hm0]; rfl
                have hm2 : ¬ ((0 : Int) ≤ -1) := by decide
                rw [spAdd_new (fun p hp => by rw [List.length_eq_zero_iff.1 hS0] at hp; cases hp)] at HRn2
                have HS0 := Lib.hid hS0
                clear hS0 hm0
                obtain ⟨As, caps, hvs, gs1, gs2, _⟩ := own_at (xss := S.map spC) (by simpa using HOv8.out) (by intro xs hx; obtain ⟨c, _, rfl⟩ := List.mem_map.1 hx; rfl)
                rw [List.length_map] at hvs gs1
                subst hvs
                go_upto_region 23 with fail
                go_wp2_with (at_builtin; go_loud (refine wpList_append_lies _ rfl _ _ _ rfl w.heap.size 27 i2 _ 2 16 Try.underlying28 his hx0 hx1 hx2 rfl (by omega) (.slice As S.length caps) S.length _ rfl (HOv8.out.alloc (.cells #[.int .i64 t, .int .i64 nx] 27)) ⟨w8.heap.size, 0, none⟩ 1 1 (spC (t, nx)) rfl rfl (World.news_of_block (cs := (spC (t, nx)).toArray) (t := 27) (fr := (0, 0)) (Blk.new' _ _ _ (by simp))) (by simp [Value.oneCell', spC]) (by omega) (by unfold maxLen; omega) (by omega) (by simp; omega) (w8.heap.size + 1) (by simp) ?_); intro gg cap9 w9 hown9 hgrow hat hlt9)
                have HOa := HOv8.out.alloc (.cells #[.int .i64 t, .int .i64 nx] 27)
                have HO9 := Lib.hid (show w9.ownsRow w.heap.size 27 2 (.slice (some ⟨gg, 0, none⟩) (S.length + 1) cap9) (S ++ [(t, nx)]).length ((S ++ [(t, nx)]).map spC).flatten by rw [spC_flat, List.length_append]; exact hown9)
                have HOb := HOo8.out.alloc (.cells #[.int .i64 t, .int .i64 nx] 27)
                have HOo9 := Lib.hid (HOb.kept hgrow (own_ne HOb HOa (by decide)))
                have X19 := Lib.hid (Blk.grown' hgrow (X18.out.alloc (.cells #[.int .i64 t, .int .i64 nx] 27)) (Blk.own_ne (X18.out.alloc _) HOa (by decide)))
                have X29 := Lib.hid (Blk.grown' hgrow (X28.out.alloc (.cells #[.int .i64 t, .int .i64 nx] 27)) (Blk.own_ne (X28.out.alloc _) HOa (by decide)))
                have hba := HB8.out.alloc hbz8 (.cells #[.int .i64 t, .int .i64 nx] 27)
                have HB9 := Lib.hid (hba.trans (below_app hba.size HOa hgrow))
                exact ⟨⟨k + 1, S ++ [(t, nx)], by omega, by go_num, by simp; omega, HRn2, HO9, HOo9, X19, X29, HB9⟩, by simp [intOf]; omega⟩
              · obtain ⟨pl, hgl⟩ : ∃ p, S.getLast? = some p := ⟨_, List.getLast?_eq_some_getLast (List.length_pos_iff.1 hS0)⟩
                obtain ⟨M, hM, hcu⟩ := spC_last hgl
                have hm0 : (S.length : Int) - 1 = (M : Int) := by omega
                have hm1 : IntKind.i64.wrap ((S.length : Int) - 1) = (M : Int) := by rw [hm0]; exact IntWalk.i64_in _ (by omega)
                have hm3 : (0 : Int) ≤ (M : Int) := by omega
                have hm4 : (M : Int) < (S.length : Int) := by omega
                obtain ⟨gS, capS, rfl, hgb, hgl8⟩ := HOv8.out.form (by omega)
                have hfz := HOv8.out.frozenAt (M * 2 + 1)
                have hcl := HOv8.out.cellAt (M * 2 + 1) (by omega)
                rw [hcu] at hcl
                clear hcu hm0
                by_cases hpe : pl.2 = t
                · have hpd : decide (pl.2 = t) = true := decide_eq_true hpe
                  have hpd2 : (pl.2 == t) = true := beq_iff_eq.2 hpe
                  have hSne : S ≠ [] := List.length_pos_iff.1 hS0
                  rw [spAdd_long hgl hpe] at HRn2
                  have HSt := Lib.hid (spC_set (l := S) (n := nx) hSne)
                  rw [hM, Nat.add_sub_cancel] at HSt
                  have hst := HOv8.out.stored (M * 2 + 1) (.int .i64 nx)
                  have HO9 := Lib.hid hst.1
                  rw [HSt.out.1] at HO9
                  have HOo9 := Lib.hid (HOo8.out.kept hst.2 (own_ne HOo8.out HOv8.out (by decide)))
                  have X19 := Lib.hid (Blk.grown' hst.2 X18.out (Blk.own_ne X18.out HOv8.out (by decide)))
                  have X29 := Lib.hid (Blk.grown' hst.2 X28.out (Blk.own_ne X28.out HOv8.out (by decide)))
                  have HB9 := Lib.hid (HB8.out.trans (below_app hbz8 HOv8.out hst.2))
                  have HL9 := Lib.hid HSt.out.2
                  have HM := Lib.hid hM
                  clear hst HSt HOv8 HOo8 X18 X28 HB8 hgl hSne hpe hS0 hM
                  go_wp2_with fail
                  exact ⟨⟨k + 1, spLong S nx, by omega, by go_num, by rw [HL9.out]; have := HM.out; omega, HRn2, by rw [HL9.out, ← HM.out]; exact HO9, HOo9, X19, X29, HB9⟩, by simp [intOf]; omega⟩
                · have hpd : decide (pl.2 = t) = false := decide_eq_false hpe
                  have hpd2 : (pl.2 == t) = false := beq_eq_false_iff_ne.2 hpe
                  rw [spAdd_new (fun p hp => by rw [hgl] at hp; cases hp; exact hpe)] at HRn2
                  clear hgl hpe hS0 hM
                  go_upto_region 23 with fail
                  go_wp2_with (at_builtin; go_loud (refine wpList_append_lies _ rfl _ _ _ rfl w.heap.size 27 i2 _ 2 16 Try.underlying28 his hx0 hx1 hx2 rfl (by omega) (.slice (some ⟨gS, 0, none⟩) S.length capS) S.length _ rfl (HOv8.out.alloc (.cells #[.int .i64 t, .int .i64 nx] 27)) ⟨w8.heap.size, 0, none⟩ 1 1 (spC (t, nx)) rfl rfl (World.news_of_block (cs := (spC (t, nx)).toArray) (t := 27) (fr := (0, 0)) (Blk.new' _ _ _ (by simp))) (by simp [Value.oneCell', spC]) (by omega) (by unfold maxLen; omega) (by omega) (by simp; omega) (w8.heap.size + 1) (by simp) ?_); intro gg cap9 w9 hown9 hgrow hat hlt9)
                  have HOa := HOv8.out.alloc (.cells #[.int .i64 t, .int .i64 nx] 27)
                  have HO9 := Lib.hid (show w9.ownsRow w.heap.size 27 2 (.slice (some ⟨gg, 0, none⟩) (S.length + 1) cap9) (S ++ [(t, nx)]).length ((S ++ [(t, nx)]).map spC).flatten by rw [spC_flat, List.length_append]; exact hown9)
                  have HOb := HOo8.out.alloc (.cells #[.int .i64 t, .int .i64 nx] 27)
                  have HOo9 := Lib.hid (HOb.kept hgrow (own_ne HOb HOa (by decide)))
                  have X19 := Lib.hid (Blk.grown' hgrow (X18.out.alloc (.cells #[.int .i64 t, .int .i64 nx] 27)) (Blk.own_ne (X18.out.alloc _) HOa (by decide)))
                  have X29 := Lib.hid (Blk.grown' hgrow (X28.out.alloc (.cells #[.int .i64 t, .int .i64 nx] 27)) (Blk.own_ne (X28.out.alloc _) HOa (by decide)))
                  have hba := HB8.out.alloc hbz8 (.cells #[.int .i64 t, .int .i64 nx] 27)
                  have HB9 := Lib.hid (hba.trans (below_app hba.size HOa hgrow))
                  exact ⟨⟨k + 1, S ++ [(t, nx)], by omega, by go_num, by simp; omega, HRn2, HO9, HOo9, X19, X29, HB9⟩, by simp [intOf]; omega⟩
        · obtain rfl : k = P.length - 1 := by omega
          have HRf := Lib.hid (show S = runP D P [] by rw [← HRn.out, List.drop_eq_getElem_cons (show P.length - 1 < P.length by omega), List.drop_eq_nil_of_le (by omega)]; rfl)
          rw [HRf.out] at HOv
          have hend : ((P.length - 1 : Nat) : Int) + 1 = (P.length : Int) := by omega
          rw [hend]
          go_wp2_with fail
          go_ret2
          exact ⟨_, P, rfl, HOv.out, HRi.out, HMe.out, HB.out⟩
end Go.Proofs.Ytbnajjfkkgmflaa
