/- Part 36 of the proof of BookParses: no condition; what its declarations say stands at each. -/
import Derived.Test.YthppifcggmdmoaaGreatDoorJ30
import Derived.Test.YthppifcggmdmoaaGreatDoorJ21
import Derived.Test.YthppifcggmdmoaaGreatDoorJ35
import Derived.Deep.Cut
namespace Go.Proofs.YthppifcggmdmoaaGreatDoor
open Go.RowKit
set_option linter.unusedVariables false
set_option linter.unusedSimpArgs false
attribute [local go_sem ↓] Go.wp_at_zero Go.wp_at_succ
theorem rp_s0 {W : World} {b : Nat} {t : TypeId} {u0 u1 u2 u3 u4 u5 u6 u7 u8 u9 u10 : Value} (h : Blk W b t #[u0, u1, u2, u3, u4, u5, u6, u7, u8, u9, u10]) (x : ByteArray) : Blk (W.setCell ⟨b, 0, none⟩ (.string x)) b t #[.string x, u1, u2, u3, u4, u5, u6, u7, u8, u9, u10] := by
 have h0 := h.set 0 (.string x)
 simp only [List.setIfInBounds_toArray, List.set_cons_succ, List.set_cons_zero] at h0
 exact h0
theorem rp_s10 {W : World} {b : Nat} {t : TypeId} {u0 u1 u2 u3 u4 u5 u6 u7 u8 u9 u10 : Value} (h : Blk W b t #[u0, u1, u2, u3, u4, u5, u6, u7, u8, u9, u10]) (x : ByteArray) : Blk (W.setCell ⟨b, 10, none⟩ (.string x)) b t #[u0, u1, u2, u3, u4, u5, u6, u7, u8, u9, .string x] := by
 have h0 := h.set 10 (.string x)
 simp only [List.setIfInBounds_toArray, List.set_cons_succ, List.set_cons_zero] at h0
 exact h0
theorem rp_1 {W : World} {b : Nat} {t : TypeId} {u0 u1 u2 u3 u4 u5 u6 u7 u8 u9 u10 : Value} (h : Blk W b t #[u0, u1, u2, u3, u4, u5, u6, u7, u8, u9, u10]) (x : Int) : Blk (W.setCell ⟨b, 1, none⟩ (.int .i64 x)) b t #[u0, .int .i64 x, u2, u3, u4, u5, u6, u7, u8, u9, u10] := by
 have h0 := h.set 1 (.int .i64 x)
 simp only [List.setIfInBounds_toArray, List.set_cons_succ, List.set_cons_zero] at h0
 exact h0
theorem rp_2 {W : World} {b : Nat} {t : TypeId} {u0 u1 u2 u3 u4 u5 u6 u7 u8 u9 u10 : Value} (h : Blk W b t #[u0, u1, u2, u3, u4, u5, u6, u7, u8, u9, u10]) (x : Int) : Blk (W.setCell ⟨b, 2, none⟩ (.int .i64 x)) b t #[u0, u1, .int .i64 x, u3, u4, u5, u6, u7, u8, u9, u10] := by
 have h0 := h.set 2 (.int .i64 x)
 simp only [List.setIfInBounds_toArray, List.set_cons_succ, List.set_cons_zero] at h0
 exact h0
theorem rp_3 {W : World} {b : Nat} {t : TypeId} {u0 u1 u2 u3 u4 u5 u6 u7 u8 u9 u10 : Value} (h : Blk W b t #[u0, u1, u2, u3, u4, u5, u6, u7, u8, u9, u10]) (x : Int) : Blk (W.setCell ⟨b, 3, none⟩ (.int .i64 x)) b t #[u0, u1, u2, .int .i64 x, u4, u5, u6, u7, u8, u9, u10] := by
 have h0 := h.set 3 (.int .i64 x)
 simp only [List.setIfInBounds_toArray, List.set_cons_succ, List.set_cons_zero] at h0
 exact h0
theorem rule_list : rULE.toList = [114, 117, 108, 101] := by rw [ByteArray.toList_eq]; rfl
theorem suf_one (l : List UInt8) (c : UInt8) : Lib.hasSuffix l [c] = decide (l.getLast? = some c) := by
 rw [Bool.eq_iff_iff, decide_eq_true_eq, Lib.hasSuffix, List.isSuffixOf_iff_suffix, List.getLast?_eq_some_iff]
 constructor
 ·rintro ⟨t, h⟩; exact ⟨t, h.symm⟩
 ·rintro ⟨t, h⟩; exact ⟨t, h.symm⟩
theorem by_two (l : List UInt8) : byK l = if decide (l.getLast? = some 117) = true then 2 else if decide (l.getLast? = some 115) = true then 1 else 0 := by
 unfold byK
 by_cases h1 : l.getLast? = some 115
 ·rw [if_pos h1, decide_eq_true h1, h1]; decide
 ·rw [if_neg h1, decide_eq_false h1]
  by_cases h2 : l.getLast? = some 117
  ·rw [if_pos h2, decide_eq_true h2]; rfl
  ·rw [if_neg h2, decide_eq_false h2]; rfl
set_option maxRecDepth 100000 in
set_option maxHeartbeats 8000000 in
theorem r_RuleParse (s : ByteArray) (hs : s.size < 4294967281) (w : World) :
  Calls Tryz.prog 23 #[.string s] w fun e w' => ∃ r er, e = .returned (.tuple #[.agg (ruA r), .int .i64 er]) ∧ RdRu s r er ∧ Below w.heap.size w w' := by
 have hb1 := (Below.refl w.heap.size w).alloc (Nat.le_refl _) (.cells #[.string ⟨#[]⟩, .int .i64 0, .int .i64 0, .int .i64 0, .int .i64 0, .int .i64 0, .int .i64 0, .int .i64 0, .int .i64 0, .int .i64 0, .string ⟨#[]⟩] 70)
 have k1 := Blk.new w #[.string ⟨#[]⟩, .int .i64 0, .int .i64 0, .int .i64 0, .int .i64 0, .int .i64 0, .int .i64 0, .int .i64 0, .int .i64 0, .int .i64 0, .string ⟨#[]⟩] 70
 obtain ⟨W, hW⟩ : ∃ W, w.alloc (.cells #[.string ⟨#[]⟩, .int .i64 0, .int .i64 0, .int .i64 0, .int .i64 0, .int .i64 0, .int .i64 0, .int .i64 0, .int .i64 0, .int .i64 0, .string ⟨#[]⟩] 70) = W := ⟨_, rfl⟩
 rw [hW] at hb1 k1
 obtain ⟨B, hBe⟩ : ∃ B, w.heap.size = B := ⟨_, rfl⟩
 rw [hBe] at k1
 have HB := Lib.hid hb1
 have HT := Lib.hid k1
 have HBe := Lib.hid hBe
 clear hb1 k1
 go_enter Tryz.func23, Tryz.ntmps23
 go_wp2_with fail
 refine (split_one s 32 hs _).mono ?_
 rintro e w1 ⟨ws, hws, rfl, rfl⟩
 have HX := Lib.hid (Blk.new W (ws.map Value.string).toArray 9)
 have hb2 := (Below.refl W.heap.size W).alloc (Nat.le_refl _) (.cells (ws.map Value.string).toArray 9)
 replace HT := Lib.hid (HT.out.step hb2)
 replace HB := Lib.hid (HB.out.trans (hb2.mono HB.out.size))
 obtain ⟨W1, hW1⟩ : ∃ W1, W.alloc (.cells (ws.map Value.string).toArray 9) = W1 := ⟨_, rfl⟩
 obtain ⟨C, hC⟩ : ∃ C, W.heap.size = C := ⟨_, rfl⟩
 rw [hW1] at HX HT HB
 rw [hC] at HX
 clear hb2
 have HWS := Lib.hid hws
 clear hws
 by_cases h9 : ws.length = 9
 rotate_left
 ·have hn9 : ((ws.length : Int) != 9) = true := by rw [bne_iff_ne]; omega
  have HRD := Lib.hid (ru_none (s := s) (fun w0 w1 w2 w3 w4 w5 w6 w7 w8 _ _ e => h9 (by have h := congrArg List.length (HWS.out.trans e); simpa using h)))
  clear h9 HWS
  have tr := HT.out.frz
  have tl := HT.out.lt
  have tc := HT.out.cell
  go_wp2_with fail
  have HF := Lib.hid (blk11 HT.out (.string ⟨#[]⟩) (.int .i64 0) (.int .i64 0) (.int .i64 0) (.int .i64 0) (.int .i64 0) (.int .i64 0) (.int .i64 0) (.int .i64 0) (.int .i64 0) (.string ⟨#[]⟩))
  have HBF := Lib.hid (below11 HB.out (Nat.le_of_eq HBe.out) (.string ⟨#[]⟩) (.int .i64 0) (.int .i64 0) (.int .i64 0) (.int .i64 0) (.int .i64 0) (.int .i64 0) (.int .i64 0) (.int .i64 0) (.int .i64 0) (.string ⟨#[]⟩))
  obtain ⟨U, hU⟩ : ∃ U, (((((((((((W1.setCell ⟨B, 0, none⟩ (.string ⟨#[]⟩)).setCell ⟨B, 1, none⟩ (.int .i64 0)).setCell ⟨B, 2, none⟩ (.int .i64 0)).setCell ⟨B, 3, none⟩ (.int .i64 0)).setCell ⟨B, 4, none⟩ (.int .i64 0)).setCell ⟨B, 5, none⟩ (.int .i64 0)).setCell ⟨B, 6, none⟩ (.int .i64 0)).setCell ⟨B, 7, none⟩ (.int .i64 0)).setCell ⟨B, 8, none⟩ (.int .i64 0)).setCell ⟨B, 9, none⟩ (.int .i64 0)).setCell ⟨B, 10, none⟩ (.string ⟨#[]⟩)) = U := ⟨_, rfl⟩
  rw [hU] at HF HBF
  try rw [hU]
  have hf := HF.out.cell
  exact bodyPost_ret (v := .tuple #[.agg #[.string ⟨#[]⟩, .int .i64 0, .int .i64 0, .int .i64 0, .int .i64 0, .int .i64 0, .int .i64 0, .int .i64 0, .int .i64 0, .int .i64 0, .string ⟨#[]⟩], .int .i64 3]) (by simp [results, Tryz.results23, go_sem, hf]) rfl ⟨default, _, rfl, HRD.out, HBF.out⟩
 obtain ⟨b0, b1, b2, b3, b4, b5, b6, b7, b8, rfl⟩ := list9 h9
 clear h9
 have hsz : ∀ b ∈ [b0, b1, b2, b3, b4, b5, b6, b7, b8], b.size ≤ s.size := fun b hb => by
  have h1 := lSplit_len 32 s.data.toList b.data.toList (by rw [← HWS.out]; exact List.mem_map.2 ⟨b, hb, rfl⟩)
  have e1 : b.size = b.data.toList.length := Lib.size_eq _
  have e2 : s.size = s.data.toList.length := Lib.size_eq _
  omega
 have HSZ := Lib.hid hsz
 have hz1 := hsz b1 (by simp)
 have hz6 := hsz b6 (by simp)
 clear hsz
 have hm9 : ([b0, b1, b2, b3, b4, b5, b6, b7, b8].map Value.string).toArray = #[.string b0, .string b1, .string b2, .string b3, .string b4, .string b5, .string b6, .string b7, .string b8] := rfl
 rw [hm9] at hW1 HX
 rw [hm9, hW1, hC, show ([b0, b1, b2, b3, b4, b5, b6, b7, b8] : List ByteArray).length = 9 from rfl]
 clear hm9 hW1 hC hW
 have xc := HX.out.cell
 have xl := HX.out.lt
 by_cases h0 : b0 = rULE
 rotate_left
 ·have hd : (b0.toList == rULE.toList) = false := str_ne h0
  rw [rule_list] at hd
  have HRD := Lib.hid (ru_none (s := s) (fun w0 w1 w2 w3 w4 w5 w6 w7 w8 h _ e => h0 (by rw [← HWS.out] at e; simp only [List.map_cons, List.map_nil, List.cons.injEq, and_true] at e; exact bytes_ext (e.1.trans h))))
  clear h0 HWS
  have tr := HT.out.frz
  have tl := HT.out.lt
  have tc := HT.out.cell
  go_wp2_with fail
  have HF := Lib.hid (blk11 HT.out (.string ⟨#[]⟩) (.int .i64 0) (.int .i64 0) (.int .i64 0) (.int .i64 0) (.int .i64 0) (.int .i64 0) (.int .i64 0) (.int .i64 0) (.int .i64 0) (.string ⟨#[]⟩))
  have HBF := Lib.hid (below11 HB.out (Nat.le_of_eq HBe.out) (.string ⟨#[]⟩) (.int .i64 0) (.int .i64 0) (.int .i64 0) (.int .i64 0) (.int .i64 0) (.int .i64 0) (.int .i64 0) (.int .i64 0) (.int .i64 0) (.string ⟨#[]⟩))
  obtain ⟨U, hU⟩ : ∃ U, (((((((((((W1.setCell ⟨B, 0, none⟩ (.string ⟨#[]⟩)).setCell ⟨B, 1, none⟩ (.int .i64 0)).setCell ⟨B, 2, none⟩ (.int .i64 0)).setCell ⟨B, 3, none⟩ (.int .i64 0)).setCell ⟨B, 4, none⟩ (.int .i64 0)).setCell ⟨B, 5, none⟩ (.int .i64 0)).setCell ⟨B, 6, none⟩ (.int .i64 0)).setCell ⟨B, 7, none⟩ (.int .i64 0)).setCell ⟨B, 8, none⟩ (.int .i64 0)).setCell ⟨B, 9, none⟩ (.int .i64 0)).setCell ⟨B, 10, none⟩ (.string ⟨#[]⟩)) = U := ⟨_, rfl⟩
  rw [hU] at HF HBF
  try rw [hU]
  have hf := HF.out.cell
  exact bodyPost_ret (v := .tuple #[.agg #[.string ⟨#[]⟩, .int .i64 0, .int .i64 0, .int .i64 0, .int .i64 0, .int .i64 0, .int .i64 0, .int .i64 0, .int .i64 0, .int .i64 0, .string ⟨#[]⟩], .int .i64 3]) (by simp [results, Tryz.results23, go_sem, hf]) rfl ⟨default, _, rfl, HRD.out, HBF.out⟩
 have hd : (b0.toList == rULE.toList) = true := by rw [h0]; exact beq_self_eq_true _
 rw [rule_list] at hd
 have HH0 := Lib.hid h0
 clear h0
 have hCR : C ≠ W1.heap.size := by have := HX.out.lt; omega
 have hBR : B ≠ W1.heap.size := by have := HT.out.lt; omega
 have hwR : w.heap.size ≤ W1.heap.size := HB.out.size
 have hV := (Below.refl W1.heap.size W1).alloc (Nat.le_refl _) (.cells #[.string ⟨#[]⟩, .int .i64 0, .int .i64 0, .int .i64 0, .int .i64 0, .int .i64 0, .int .i64 0, .int .i64 0, .int .i64 0, .int .i64 0, .string ⟨#[]⟩] 70)
 have HR := Lib.hid (Blk.new W1 #[.string ⟨#[]⟩, .int .i64 0, .int .i64 0, .int .i64 0, .int .i64 0, .int .i64 0, .int .i64 0, .int .i64 0, .int .i64 0, .int .i64 0, .string ⟨#[]⟩] 70)
 replace HT := Lib.hid (HT.out.step hV)
 replace HX := Lib.hid (HX.out.step hV)
 replace HB := Lib.hid (HB.out.trans (hV.mono HB.out.size))
 clear hV
 go_upto_region 7 with fail
 obtain ⟨W2, hW2⟩ : ∃ W2, W1.alloc (.cells #[.string ⟨#[]⟩, .int .i64 0, .int .i64 0, .int .i64 0, .int .i64 0, .int .i64 0, .int .i64 0, .int .i64 0, .int .i64 0, .int .i64 0, .string ⟨#[]⟩] 70) = W2 := ⟨_, rfl⟩
 obtain ⟨R, hR⟩ : ∃ R, W1.heap.size = R := ⟨_, rfl⟩
 rw [hW2] at HT HX HB HR ⊢
 rw [hR] at HR hCR hBR hwR ⊢
 clear hW2 hR xc xl hd
 refine wp_region_noPanic ?_
 refine wp_region_held_drew (S := fun W' : World => Below w.heap.size w W' ∧ Blk W' C 9 #[.string b0, .string b1, .string b2, .string b3, .string b4, .string b5, .string b6, .string b7, .string b8]) (by kernel_rfl) ⟨HB.out.drew, HX.out.drew⟩ (fun hHeld0 => ?_)
 have hHeld := hHeld0
 clear hHeld0
 refine wpAnyH_take (i := 0) (v := ?_) rfl (by kernel_rfl) (by kernel_rfl) (by kernel_rfl) (fun _ _ _ h => h) (Or.inl ⟨by rfl, ?_⟩) hHeld ?_
 rotate_left
 ·intro wq hSw
  go_simp
  try with_reducible rfl
 try simp only [Act.put, List.getElem_toArray, List.getElem_cons_succ, List.getElem_cons_zero, List.setIfInBounds_toArray, List.set_cons_zero, List.set_cons_succ]
 refine wpAnyH_take (i := 1) (v := ?_) rfl (by kernel_rfl) (by kernel_rfl) (by kernel_rfl) (fun _ _ _ h => h) (Or.inl ⟨by rfl, ?_⟩) hHeld ?_
 rotate_left
 ·intro wq hSw
  go_simp
  try with_reducible rfl
 try simp only [Act.put, List.getElem_toArray, List.getElem_cons_succ, List.getElem_cons_zero, List.setIfInBounds_toArray, List.set_cons_zero, List.set_cons_succ]
 refine wpAnyH_take (i := 2) (v := ?_) rfl (by kernel_rfl) (by kernel_rfl) (by kernel_rfl) (fun _ _ _ h => h) (Or.inl ⟨by rfl, ?_⟩) hHeld ?_
 rotate_left
 ·intro wq hSw
  have xc := hSw.2.cell
  have xl := hSw.2.lt
  go_simp
  try with_reducible rfl
 try simp only [Act.put, List.getElem_toArray, List.getElem_cons_succ, List.getElem_cons_zero, List.setIfInBounds_toArray, List.set_cons_zero, List.set_cons_succ]
 refine wpAnyH_take (i := 3) (v := ?_) rfl (by kernel_rfl) (by kernel_rfl) (by kernel_rfl) (fun _ _ _ h => h) (Or.inl ⟨by rfl, ?_⟩) hHeld ?_
 rotate_left
 ·intro wq hSw
  go_simp
  try with_reducible rfl
 try simp only [Act.put, List.getElem_toArray, List.getElem_cons_succ, List.getElem_cons_zero, List.setIfInBounds_toArray, List.set_cons_zero, List.set_cons_succ]
 refine wpAnyH_take (i := 4) (v := ?_) rfl (by kernel_rfl) (by kernel_rfl) (by kernel_rfl) (fun _ _ _ h => h) (Or.inl ⟨by rfl, ?_⟩) hHeld ?_
 rotate_left
 ·intro wq hSw
  go_simp
  try with_reducible rfl
 try simp only [Act.put, List.getElem_toArray, List.getElem_cons_succ, List.getElem_cons_zero, List.setIfInBounds_toArray, List.set_cons_zero, List.set_cons_succ]
 refine wpAnyH_take (i := 5) (v := ?_) rfl (by kernel_rfl) (by kernel_rfl) (by kernel_rfl) (fun _ _ _ h => h) (Or.inl ⟨by rfl, ?_⟩) hHeld ?_
 rotate_left
 ·intro wq hSw
  have xc := hSw.2.cell
  have xl := hSw.2.lt
  go_simp
  try with_reducible rfl
 try simp only [Act.put, List.getElem_toArray, List.getElem_cons_succ, List.getElem_cons_zero, List.setIfInBounds_toArray, List.set_cons_zero, List.set_cons_succ]
 refine wpAnyH_take (i := 6) (v := ?_) rfl (by kernel_rfl) (by kernel_rfl) (by kernel_rfl) (fun _ _ _ h => h) (Or.inl ⟨by rfl, ?_⟩) hHeld ?_
 rotate_left
 ·intro wq hSw
  go_simp
  try with_reducible rfl
 try simp only [Act.put, List.getElem_toArray, List.getElem_cons_succ, List.getElem_cons_zero, List.setIfInBounds_toArray, List.set_cons_zero, List.set_cons_succ]
 refine wpAnyH_ready (rs := [7]) (by kernel_rfl) (by simp) ?_
 refine AllReadyH.cons rfl (fun K hK => ?_) AllReadyH.nil
 have q1 := HR.out.drew.cell
 have q2 := HR.out.drew.frz
 have q3 := HR.out.drew.lt
 have hS8 := And.intro (HB.out.setCell (p := ⟨R, 0, none⟩) hwR (.string b1)).drew (HX.out.far (a := ⟨R, 0, none⟩) hCR (.string b1)).drew
 go_simp
 refine hK.out _ _ hS8 (fun hHeld2 => ?_)
 clear hK K q1 q2 q3 hHeld2 hHeld
 have hHeld := hS8
 clear hS8
 try simp only [Act.put, List.getElem_toArray, List.getElem_cons_succ, List.getElem_cons_zero, List.setIfInBounds_toArray, List.set_cons_zero, List.set_cons_succ]
 have HRa := Lib.hid (rp_s0 HR.out b1).drew
 refine wpAnyH_take (i := 8) (v := ?_) rfl (by kernel_rfl) (by kernel_rfl) (by kernel_rfl) (fun _ _ _ h => h) (Or.inl ⟨by rfl, ?_⟩) hHeld ?_
 rotate_left
 ·intro wq hSw
  go_simp
  try with_reducible rfl
 try simp only [Act.put, List.getElem_toArray, List.getElem_cons_succ, List.getElem_cons_zero, List.setIfInBounds_toArray, List.set_cons_zero, List.set_cons_succ]
 refine wpAnyH_ready (rs := [9]) (by kernel_rfl) (by simp) ?_
 refine AllReadyH.cons rfl (fun K hK => ?_) AllReadyH.nil
 have q1 := HRa.out.cell
 have q2 := HRa.out.frz
 have q3 := HRa.out.lt
 have hS8 := And.intro ((HB.out.setCell (p := ⟨R, 0, none⟩) hwR (.string b1)).setCell (p := ⟨R, 10, none⟩) hwR (.string b8)).drew ((HX.out.far (a := ⟨R, 0, none⟩) hCR (.string b1)).far (a := ⟨R, 10, none⟩) hCR (.string b8)).drew
 go_simp
 refine hK.out _ _ hS8 (fun hHeld2 => ?_)
 clear hK K q1 q2 q3 hHeld2 hHeld
 have hHeld := hS8
 clear hS8
 try simp only [Act.put, List.getElem_toArray, List.getElem_cons_succ, List.getElem_cons_zero, List.setIfInBounds_toArray, List.set_cons_zero, List.set_cons_succ]
 have HRb := Lib.hid (rp_s10 (rp_s0 HR.out b1) b8).drew
 refine wpAnyH_done (by kernel_rfl) ?_ _
 refine NoPanic.normal ?_
 replace HR := HRb
 clear HRa HRb
 replace HT := Lib.hid ((HT.out.far (a := ⟨R, 0, none⟩) hBR (.string b1)).far (a := ⟨R, 10, none⟩) hBR (.string b8)).drew
 replace HX := Lib.hid hHeld.2
 replace HB := Lib.hid hHeld.1
 clear hHeld
 obtain ⟨V0, hV0⟩ : ∃ V, ((W2.setCell ⟨R, 0, none⟩ (.string b1)).setCell ⟨R, 10, none⟩ (.string b8)).drew = V := ⟨_, rfl⟩
 rw [hV0] at HR HX HT HB ⊢
 clear hV0
 have xc := HX.out.cell
 have xl := HX.out.lt
 have HSp := Lib.hid (r_numeral b2 V0)
 go_wp2_with fail
 refine HSp.out.mono ?_
 rintro e w7 ⟨vf, c2, rfl, ha, hb⟩
 have HN2 := Lib.hid ha
 replace HX := Lib.hid (HX.out.step hb)
 replace HR := Lib.hid (HR.out.step hb)
 replace HT := Lib.hid (HT.out.step hb)
 replace HB := Lib.hid (HB.out.trans (hb.mono HB.out.size))
 clear hb ha HSp xc xl
 have rc := HR.out.cell
 have rz := HR.out.frz
 have rl := HR.out.lt
 go_upto_region 9 with fail
 replace HR := Lib.hid (rp_1 HR.out vf)
 replace HX := Lib.hid (HX.out.far (a := ⟨R, 1, none⟩) hCR (.int .i64 vf))
 replace HT := Lib.hid (HT.out.far (a := ⟨R, 1, none⟩) hBR (.int .i64 vf))
 replace HB := Lib.hid (HB.out.setCell (p := ⟨R, 1, none⟩) hwR (.int .i64 vf))
 obtain ⟨V1, hVn⟩ : ∃ V, w7.setCell ⟨R, 1, none⟩ (.int .i64 vf) = V := ⟨_, rfl⟩
 rw [hVn] at HR HX HT HB ⊢
 clear hVn rc rz rl
 have xc := HX.out.cell
 have xl := HX.out.lt
 have HSp := Lib.hid (r_numeral b3 V1)
 go_wp2_with fail
 refine HSp.out.mono ?_
 rintro e w7 ⟨vt, c3, rfl, ha, hb⟩
 have HN3 := Lib.hid ha
 replace HX := Lib.hid (HX.out.step hb)
 replace HR := Lib.hid (HR.out.step hb)
 replace HT := Lib.hid (HT.out.step hb)
 replace HB := Lib.hid (HB.out.trans (hb.mono HB.out.size))
 clear hb ha HSp xc xl
 have rc := HR.out.cell
 have rz := HR.out.frz
 have rl := HR.out.lt
 go_upto_region 10 with fail
 replace HR := Lib.hid (rp_2 HR.out vt)
 replace HX := Lib.hid (HX.out.far (a := ⟨R, 2, none⟩) hCR (.int .i64 vt))
 replace HT := Lib.hid (HT.out.far (a := ⟨R, 2, none⟩) hBR (.int .i64 vt))
 replace HB := Lib.hid (HB.out.setCell (p := ⟨R, 2, none⟩) hwR (.int .i64 vt))
 obtain ⟨V2, hVn⟩ : ∃ V, w7.setCell ⟨R, 2, none⟩ (.int .i64 vt) = V := ⟨_, rfl⟩
 rw [hVn] at HR HX HT HB ⊢
 clear hVn rc rz rl
 have xc := HX.out.cell
 have xl := HX.out.lt
 have HSp := Lib.hid (r_numeral b4 V2)
 go_wp2_with fail
 refine HSp.out.mono ?_
 rintro e w7 ⟨vm, c4, rfl, ha, hb⟩
 have HN4 := Lib.hid ha
 replace HX := Lib.hid (HX.out.step hb)
 replace HR := Lib.hid (HR.out.step hb)
 replace HT := Lib.hid (HT.out.step hb)
 replace HB := Lib.hid (HB.out.trans (hb.mono HB.out.size))
 clear hb ha HSp xc xl
 have rc := HR.out.cell
 have rz := HR.out.frz
 have rl := HR.out.lt
 go_upto_region 11 with fail
 replace HR := Lib.hid (rp_3 HR.out vm)
 replace HX := Lib.hid (HX.out.far (a := ⟨R, 3, none⟩) hCR (.int .i64 vm))
 replace HT := Lib.hid (HT.out.far (a := ⟨R, 3, none⟩) hBR (.int .i64 vm))
 replace HB := Lib.hid (HB.out.setCell (p := ⟨R, 3, none⟩) hwR (.int .i64 vm))
 obtain ⟨V3, hVn⟩ : ∃ V, w7.setCell ⟨R, 3, none⟩ (.int .i64 vm) = V := ⟨_, rfl⟩
 rw [hVn] at HR HX HT HB ⊢
 clear hVn rc rz rl
 have xc := HX.out.cell
 have xl := HX.out.lt
 have HSp := Lib.hid (r_DayRead b5 V3)
 go_wp2_with fail
 refine HSp.out.mono ?_
 rintro e w7 ⟨kd, wd, nd, e1, rfl, ha, hb⟩
 have HDy := Lib.hid ha
 replace HX := Lib.hid (HX.out.step hb)
 replace HR := Lib.hid (HR.out.step hb)
 replace HT := Lib.hid (HT.out.step hb)
 replace HB := Lib.hid (HB.out.trans (hb.mono HB.out.size))
 clear hb ha HSp xc xl
 have rc := HR.out.cell
 have rz := HR.out.frz
 have rl := HR.out.lt
 go_upto_region 12 with fail
 replace HR := Lib.hid (rp_day HR.out kd wd nd)
 replace HX := Lib.hid (((HX.out.far (a := ⟨R, 4, none⟩) hCR (.int .i64 kd)).far (a := ⟨R, 5, none⟩) hCR (.int .i64 wd)).far (a := ⟨R, 6, none⟩) hCR (.int .i64 nd))
 replace HT := Lib.hid (((HT.out.far (a := ⟨R, 4, none⟩) hBR (.int .i64 kd)).far (a := ⟨R, 5, none⟩) hBR (.int .i64 wd)).far (a := ⟨R, 6, none⟩) hBR (.int .i64 nd))
 replace HB := Lib.hid (((HB.out.setCell (p := ⟨R, 4, none⟩) hwR (.int .i64 kd)).setCell (p := ⟨R, 5, none⟩) hwR (.int .i64 wd)).setCell (p := ⟨R, 6, none⟩) hwR (.int .i64 nd))
 obtain ⟨V4, hV4⟩ : ∃ V, ((w7.setCell ⟨R, 4, none⟩ (.int .i64 kd)).setCell ⟨R, 5, none⟩ (.int .i64 wd)).setCell ⟨R, 6, none⟩ (.int .i64 nd) = V := ⟨_, rfl⟩
 rw [hV4] at HR HX HT HB ⊢
 clear hV4 rc rz rl
 obtain ⟨sb, hsb⟩ : ∃ sb, decide (b6.data.toList.getLast? = some 115) = sb := ⟨_, rfl⟩
 obtain ⟨ub, hub⟩ : ∃ ub, decide (b6.data.toList.getLast? = some 117) = ub := ⟨_, rfl⟩
 obtain ⟨bb, hbb⟩ : ∃ bb, byK b6.data.toList = bb := ⟨_, rfl⟩
 have HBB := Lib.hid hbb
 have HS5 := Lib.hid (show ∀ V : World, Calls Tryz.prog 60 #[.string b6, .string ⟨#[115]⟩] V fun e w' => e = .returned (.bool sb) ∧ w' = V from fun V => by have h := Tryz.strings_HasSuffix b6 ⟨#[115]⟩ V (by omega); rw [show (⟨#[115]⟩ : ByteArray).data.toList = [115] from rfl, suf_one, hsb] at h; exact h)
 have HU5 := Lib.hid (show ∀ V : World, Calls Tryz.prog 60 #[.string b6, .string ⟨#[117]⟩] V fun e w' => e = .returned (.bool ub) ∧ w' = V from fun V => by have h := Tryz.strings_HasSuffix b6 ⟨#[117]⟩ V (by omega); rw [show (⟨#[117]⟩ : ByteArray).data.toList = [117] from rfl, suf_one, hub] at h; exact h)
 have HBY := Lib.hid (show bb = if ub = true then 2 else if sb = true then 1 else 0 by rw [← hbb, by_two, hub, hsb])
 have HB0 := Lib.hid (show 0 < bb → 0 < b6.size by
  intro h
  rw [← hbb] at h
  rw [Lib.size_eq]
  cases e : b6.data.toList with
  | nil => rw [e] at h; exact absurd h (by decide)
  | cons x y => simp)
 have HAK := Lib.hid (show atK b6.data.toList = if bb = 0 then b6.data.toList else b6.data.toList.dropLast by rw [← hbb]; rfl)
 clear hsb hub hbb
 have xc := HX.out.cell
 have xl := HX.out.lt
 go_upto_if 69 with (first | (go_at_call 60; refine (HS5.out _).mono ?_; rintro e w6 ⟨rfl, rfl⟩))
 clear xc xl
 go_cut [12] from 13 (fun v wx => ∃ y : Int, v = .string b6 ∧ Hid (y = if sb = true then 1 else 0) ∧ Hid (Blk wx R 70 #[.string b1, .int .i64 vf, .int .i64 vt, .int .i64 vm, .int .i64 kd, .int .i64 wd, .int .i64 nd, .int .i64 0, .int .i64 y, .int .i64 0, .string b8]) ∧ Hid (Blk wx C 9 #[.string b0, .string b1, .string b2, .string b3, .string b4, .string b5, .string b6, .string b7, .string b8]) ∧ Hid (Blk wx B 70 #[.string ⟨#[]⟩, .int .i64 0, .int .i64 0, .int .i64 0, .int .i64 0, .int .i64 0, .int .i64 0, .int .i64 0, .int .i64 0, .int .i64 0, .string ⟨#[]⟩]) ∧ Hid (Below w.heap.size w wx))
 case first =>
  cases sb with
  | true =>
   have rc := HR.out.cell
   have rz := HR.out.frz
   have rl := HR.out.lt
   go_wp2_with fail
   go_meet
   exact ⟨1, rfl, Lib.hid rfl, Lib.hid (rp_by HR.out 1), Lib.hid (HX.out.far (a := ⟨R, 8, none⟩) hCR _), Lib.hid (HT.out.far (a := ⟨R, 8, none⟩) hBR _), Lib.hid (HB.out.setCell (p := ⟨R, 8, none⟩) hwR _)⟩
  | false =>
   go_wp2_with fail
   go_meet
   exact ⟨0, rfl, Lib.hid rfl, HR, HX, HT, HB⟩
 case rest =>
  clear HR HX HT HB HS5
  obtain ⟨y, hv, HY, HR, HX, HT, HB⟩ := hcut
  subst hv
  generalize wc = V5 at *
  go_upto_if 72 with (first | (go_at_call 60; refine (HU5.out _).mono ?_; rintro e w6 ⟨rfl, rfl⟩))
  go_cut [12] from 13 (fun v wx => v = .string b6 ∧ Hid (Blk wx R 70 #[.string b1, .int .i64 vf, .int .i64 vt, .int .i64 vm, .int .i64 kd, .int .i64 wd, .int .i64 nd, .int .i64 0, .int .i64 bb, .int .i64 0, .string b8]) ∧ Hid (Blk wx C 9 #[.string b0, .string b1, .string b2, .string b3, .string b4, .string b5, .string b6, .string b7, .string b8]) ∧ Hid (Blk wx B 70 #[.string ⟨#[]⟩, .int .i64 0, .int .i64 0, .int .i64 0, .int .i64 0, .int .i64 0, .int .i64 0, .int .i64 0, .int .i64 0, .int .i64 0, .string ⟨#[]⟩]) ∧ Hid (Below w.heap.size w wx))
  case first =>
   cases ub with
   | true =>
    have HB2 := Lib.hid (show bb = 2 by rw [HBY.out]; rfl)
    have rc := HR.out.cell
    have rz := HR.out.frz
    have rl := HR.out.lt
    go_wp2_with fail
    go_meet
    exact ⟨rfl, Lib.hid (by rw [HB2.out]; exact rp_by HR.out 2), Lib.hid (HX.out.far (a := ⟨R, 8, none⟩) hCR _), Lib.hid (HT.out.far (a := ⟨R, 8, none⟩) hBR _), Lib.hid (HB.out.setCell (p := ⟨R, 8, none⟩) hwR _)⟩
   | false =>
    have HB2 := Lib.hid (show bb = y by rw [HBY.out, HY.out]; rfl)
    go_wp2_with fail
    go_meet
    exact ⟨rfl, Lib.hid (by rw [HB2.out]; exact HR.out), HX, HT, HB⟩
  case rest =>
   clear HR HX HT HB HU5 HBY HY
   obtain ⟨hv, HR, HX, HT, HB⟩ := hcut
   subst hv
   generalize wc = V6 at *
   have rc := HR.out.cell
   have rl := HR.out.lt
   go_upto_if 76 with fail
   clear rc rl
   go_cut [12] from 13 (fun v wx => ∃ at_ : ByteArray, v = .string at_ ∧ Hid (at_.data.toList = atK b6.data.toList ∧ at_.size ≤ s.size) ∧ wx = V6)
   case first =>
    by_cases hk1 : 0 < bb
    ·have h60 := HB0.out hk1
     have HE := Lib.hid (show (b6.extract 0 (b6.size - 1)).data.toList = atK b6.data.toList ∧ (b6.extract 0 (b6.size - 1)).size ≤ s.size from by
      refine ⟨?_, ?_⟩
      ·rw [HAK.out, if_neg (by omega), Lib.extract_from_zero, List.dropLast_eq_take, ← Lib.size_eq]
      ·rw [ByteArray.size_extract]; omega)
     have hw6 : IntKind.i64.wrap ((b6.size : Int) - 1) = (b6.size : Int) - 1 := IntWalk.i64_in _ (by omega)
     have h51 : (1 : Int) ≤ (b6.size : Int) := by omega
     have h52 : (b6.size : Int) - 1 ≤ (b6.size : Int) := by omega
     go_wp2_with fail
     go_meet
     exact ⟨_, rfl, HE, rfl⟩
    ·have HE := Lib.hid (show b6.data.toList = atK b6.data.toList ∧ b6.size ≤ s.size from ⟨by have h := byK_bd b6.data.toList; rw [HBB.out] at h; rw [HAK.out, if_pos (by omega)], hz6⟩)
     go_wp2_with fail
     go_meet
     exact ⟨_, rfl, HE, rfl⟩
   case rest =>
    obtain ⟨at_, hv, HAT, hwc⟩ := hcut
    subst hv
    have hwc2 := hwc.symm
    clear hwc
    subst hwc2
    have hatz := HAT.out.2
    clear HAK HB0
    have xc := HX.out.cell
    have xl := HX.out.lt
    have HSp := Lib.hid (r_SpanRead at_ (by omega) V6)
    go_wp2_with fail
    refine HSp.out.mono ?_
    rintro e w7 ⟨va, e2, rfl, ha, hb⟩
    have HA7 := Lib.hid ha
    replace HX := Lib.hid (HX.out.step hb)
    replace HR := Lib.hid (HR.out.step hb)
    replace HT := Lib.hid (HT.out.step hb)
    replace HB := Lib.hid (HB.out.trans (hb.mono HB.out.size))
    clear hb ha HSp xc xl
    have rc := HR.out.cell
    have rz := HR.out.frz
    have rl := HR.out.lt
    go_upto_region 20 with fail
    replace HR := Lib.hid (rp_at HR.out va)
    replace HX := Lib.hid (HX.out.far (a := ⟨R, 7, none⟩) hCR (.int .i64 va))
    replace HT := Lib.hid (HT.out.far (a := ⟨R, 7, none⟩) hBR (.int .i64 va))
    replace HB := Lib.hid (HB.out.setCell (p := ⟨R, 7, none⟩) hwR (.int .i64 va))
    obtain ⟨V7, hVn⟩ : ∃ V, w7.setCell ⟨R, 7, none⟩ (.int .i64 va) = V := ⟨_, rfl⟩
    rw [hVn] at HR HX HT HB ⊢
    clear hVn rc rz rl
    have xc := HX.out.cell
    have xl := HX.out.lt
    have HSp := Lib.hid (r_SpanRead b7 (by have := HSZ.out b7 (by simp); omega) V7)
    go_wp2_with fail
    refine HSp.out.mono ?_
    rintro e w7 ⟨vs, e3, rfl, ha, hb⟩
    have HA9 := Lib.hid ha
    replace HX := Lib.hid (HX.out.step hb)
    replace HR := Lib.hid (HR.out.step hb)
    replace HT := Lib.hid (HT.out.step hb)
    replace HB := Lib.hid (HB.out.trans (hb.mono HB.out.size))
    clear hb ha HSp xc xl
    have rc := HR.out.cell
    have rz := HR.out.frz
    have rl := HR.out.lt
    go_upto_region 21 with fail
    replace HR := Lib.hid (rp_sv HR.out vs)
    replace HX := Lib.hid (HX.out.far (a := ⟨R, 9, none⟩) hCR (.int .i64 vs))
    replace HT := Lib.hid (HT.out.far (a := ⟨R, 9, none⟩) hBR (.int .i64 vs))
    replace HB := Lib.hid (HB.out.setCell (p := ⟨R, 9, none⟩) hwR (.int .i64 vs))
    obtain ⟨V8, hVn⟩ : ∃ V, w7.setCell ⟨R, 9, none⟩ (.int .i64 vs) = V := ⟨_, rfl⟩
    rw [hVn] at HR HX HT HB ⊢
    clear hVn rc rz rl
    have HREF := Lib.hid (ru_ref HWS.out HH0.out HAT.out.1 HDy.out HA7.out HA9.out HN2.out HN3.out HN4.out HBB.out.symm)
    have HRC := Lib.hid (r_RuleCheck b1 b8 vf vt vm kd wd nd va bb vs (by unfold maxLen; omega) (by have := HSZ.out b8 (by simp); unfold maxLen; omega) V8)
    have HEr := Lib.hid (show ruEr ⟨b1, vf, vt, vm, kd, wd, nd, va, bb, vs, b8⟩ = ruleE b1 b8 vf vt vm kd wd nd va bb vs from rfl)
    obtain ⟨ER, hER⟩ : ∃ ER, ruleE b1 b8 vf vt vm kd wd nd va bb vs = ER := ⟨_, rfl⟩
    rw [hER] at HRC HEr
    clear hER HWS HH0 HAT HDy HA7 HA9 HN2 HN3 HN4 HBB HX
    have rc := HR.out.cell
    have rl := HR.out.lt
    go_cut [122] from 13 (fun v wx => ∃ bad : Bool, v = .bool bad ∧ Hid (bad = false ↔ (c2 = true ∧ c3 = true ∧ c4 = true ∧ e1 = 0 ∧ e2 = 0 ∧ e3 = 0 ∧ ER = 0)) ∧ Hid (Blk wx R 70 #[.string b1, .int .i64 vf, .int .i64 vt, .int .i64 vm, .int .i64 kd, .int .i64 wd, .int .i64 nd, .int .i64 va, .int .i64 bb, .int .i64 vs, .string b8]) ∧ Hid (Blk wx B 70 #[.string ⟨#[]⟩, .int .i64 0, .int .i64 0, .int .i64 0, .int .i64 0, .int .i64 0, .int .i64 0, .int .i64 0, .int .i64 0, .int .i64 0, .string ⟨#[]⟩]) ∧ Hid (Below w.heap.size w wx))
    case first =>
     clear HREF HEr
     cases c2 with
     | false => go_wp2_with fail; go_meet; exact ⟨true, rfl, Lib.hid (by simp), HR, HT, HB⟩
     | true =>
     cases c3 with
     | false => go_wp2_with fail; go_meet; exact ⟨true, rfl, Lib.hid (by simp), HR, HT, HB⟩
     | true =>
     cases c4 with
     | false => go_wp2_with fail; go_meet; exact ⟨true, rfl, Lib.hid (by simp), HR, HT, HB⟩
     | true =>
     by_cases h1 : e1 = 0
     rotate_left
     ·have h1' : (e1 != 0) = true := by rw [bne_iff_ne]; exact h1
      have H1 := Lib.hid h1
      clear h1
      go_wp2_with fail; go_meet; exact ⟨true, rfl, Lib.hid (by simp [H1.out]), HR, HT, HB⟩
     subst h1
     by_cases h1 : e2 = 0
     rotate_left
     ·have h1' : (e2 != 0) = true := by rw [bne_iff_ne]; exact h1
      have H1 := Lib.hid h1
      clear h1
      go_wp2_with fail; go_meet; exact ⟨true, rfl, Lib.hid (by simp [H1.out]), HR, HT, HB⟩
     subst h1
     by_cases h1 : e3 = 0
     rotate_left
     ·have h1' : (e3 != 0) = true := by rw [bne_iff_ne]; exact h1
      have H1 := Lib.hid h1
      clear h1
      go_wp2_with fail; go_meet; exact ⟨true, rfl, Lib.hid (by simp [H1.out]), HR, HT, HB⟩
     subst h1
     go_wp2_with fail
     refine HRC.out.mono ?_
     rintro e w9 ⟨rfl, hb⟩
     replace HR := Lib.hid (HR.out.step hb)
     replace HT := Lib.hid (HT.out.step hb)
     replace HB := Lib.hid (HB.out.trans (hb.mono HB.out.size))
     clear hb HRC rc rl
     by_cases h1 : ER = 0
     ·subst h1
      go_wp2_with fail; go_meet; exact ⟨false, rfl, Lib.hid (by simp), HR, HT, HB⟩
     ·have h1' : (ER != 0) = true := by rw [bne_iff_ne]; exact h1
      have H1 := Lib.hid h1
      clear h1
      go_wp2_with fail; go_meet; exact ⟨true, rfl, Lib.hid (by simp [H1.out]), HR, HT, HB⟩
    case rest =>
     clear HR HT HB HRC rc rl
     obtain ⟨bad, hv, HBD, HR, HT, HB⟩ := hcut
     subst hv
     have tr := HT.out.frz
     have tl := HT.out.lt
     have tc := HT.out.cell
     cases bad with
     | true =>
      have HRD := Lib.hid (show RdRu s default 3 by
       have h := HREF.out
       rw [HEr.out, if_neg (fun h2 => by have := HBD.out.2 h2; cases this)] at h
       exact h)
      clear HREF HEr HBD HR
      go_wp2_with fail
      have HF := Lib.hid (blk11 HT.out (.string ⟨#[]⟩) (.int .i64 0) (.int .i64 0) (.int .i64 0) (.int .i64 0) (.int .i64 0) (.int .i64 0) (.int .i64 0) (.int .i64 0) (.int .i64 0) (.string ⟨#[]⟩))
      have HBF := Lib.hid (below11 HB.out (Nat.le_of_eq HBe.out) (.string ⟨#[]⟩) (.int .i64 0) (.int .i64 0) (.int .i64 0) (.int .i64 0) (.int .i64 0) (.int .i64 0) (.int .i64 0) (.int .i64 0) (.int .i64 0) (.string ⟨#[]⟩))
      obtain ⟨U, hU⟩ : ∃ U, (((((((((((wc.setCell ⟨B, 0, none⟩ (.string ⟨#[]⟩)).setCell ⟨B, 1, none⟩ (.int .i64 0)).setCell ⟨B, 2, none⟩ (.int .i64 0)).setCell ⟨B, 3, none⟩ (.int .i64 0)).setCell ⟨B, 4, none⟩ (.int .i64 0)).setCell ⟨B, 5, none⟩ (.int .i64 0)).setCell ⟨B, 6, none⟩ (.int .i64 0)).setCell ⟨B, 7, none⟩ (.int .i64 0)).setCell ⟨B, 8, none⟩ (.int .i64 0)).setCell ⟨B, 9, none⟩ (.int .i64 0)).setCell ⟨B, 10, none⟩ (.string ⟨#[]⟩)) = U := ⟨_, rfl⟩
      rw [hU] at HF HBF
      try rw [hU]
      have hf := HF.out.cell
      exact bodyPost_ret (v := .tuple #[.agg #[.string ⟨#[]⟩, .int .i64 0, .int .i64 0, .int .i64 0, .int .i64 0, .int .i64 0, .int .i64 0, .int .i64 0, .int .i64 0, .int .i64 0, .string ⟨#[]⟩], .int .i64 3]) (by simp [results, Tryz.results23, go_sem, hf]) rfl ⟨default, _, rfl, HRD.out, HBF.out⟩
     | false =>
      have HRD := Lib.hid (show RdRu s ⟨b1, vf, vt, vm, kd, wd, nd, va, bb, vs, b8⟩ 0 by
       have h := HREF.out
       rw [HEr.out, if_pos (HBD.out.1 rfl)] at h
       exact h)
      clear HREF HEr HBD
      have rc := HR.out.cell
      have rl := HR.out.lt
      go_wp2_with fail
      have HF := Lib.hid (blk11 HT.out (.string b1) (.int .i64 vf) (.int .i64 vt) (.int .i64 vm) (.int .i64 kd) (.int .i64 wd) (.int .i64 nd) (.int .i64 va) (.int .i64 bb) (.int .i64 vs) (.string b8))
      have HBF := Lib.hid (below11 HB.out (Nat.le_of_eq HBe.out) (.string b1) (.int .i64 vf) (.int .i64 vt) (.int .i64 vm) (.int .i64 kd) (.int .i64 wd) (.int .i64 nd) (.int .i64 va) (.int .i64 bb) (.int .i64 vs) (.string b8))
      obtain ⟨U, hU⟩ : ∃ U, (((((((((((wc.setCell ⟨B, 0, none⟩ (.string b1)).setCell ⟨B, 1, none⟩ (.int .i64 vf)).setCell ⟨B, 2, none⟩ (.int .i64 vt)).setCell ⟨B, 3, none⟩ (.int .i64 vm)).setCell ⟨B, 4, none⟩ (.int .i64 kd)).setCell ⟨B, 5, none⟩ (.int .i64 wd)).setCell ⟨B, 6, none⟩ (.int .i64 nd)).setCell ⟨B, 7, none⟩ (.int .i64 va)).setCell ⟨B, 8, none⟩ (.int .i64 bb)).setCell ⟨B, 9, none⟩ (.int .i64 vs)).setCell ⟨B, 10, none⟩ (.string b8)) = U := ⟨_, rfl⟩
      rw [hU] at HF HBF
      try rw [hU]
      have hf := HF.out.cell
      exact bodyPost_ret (v := .tuple #[.agg #[.string b1, .int .i64 vf, .int .i64 vt, .int .i64 vm, .int .i64 kd, .int .i64 wd, .int .i64 nd, .int .i64 va, .int .i64 bb, .int .i64 vs, .string b8], .int .i64 0]) (by simp [results, Tryz.results23, go_sem, hf]) rfl ⟨⟨b1, vf, vt, vm, kd, wd, nd, va, bb, vs, b8⟩, _, rfl, HRD.out, HBF.out⟩
end Go.Proofs.YthppifcggmdmoaaGreatDoor

