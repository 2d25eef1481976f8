/- Part 24 of the proof of TopWall: no condition; what its declarations say stands at each. -/
import Derived.Test.YthppifcggmdmoaaGreatDoorW10
import Derived.Test.YthppifcggmdmoaaGreatDoorW09
import Derived.Test.YthppifcggmdmoaaGreatDoorW22
import Derived.Test.YthppifcggmdmoaaGreatDoorW23
import Derived.Test.YthppifcggmdmoaaGreatDoorW20
import Derived.Deep.Cut
namespace Go.Proofs.YthppifcggmdmoaaGreatDoor
open Go.RowKit
set_option linter.unusedVariables false
set_option linter.unusedSimpArgs false
attribute [local go_sem ↓] Go.wp_at_zero Go.wp_at_succ
structure RpW (w : World) : Prop where
 X : RdX w
 S : RdW w
 T : TrimIn w
theorem RpW.on {w w' : World} (h : RpW w) (hb : Below w.heap.size w w') : RpW w' := ⟨h.X.on hb, h.S.on hb, h.T.on hb⟩
theorem blk11 {W : World} {b : Nat} {t : TypeId} {u0 u1 u2 u3 u4 u5 u6 u7 u8 u9 u10 : Value} (h : Blk W b t #[u0, u1, u2, u3, u4, u5, u6, u7, u8, u9, u10]) (x0 x1 x2 x3 x4 x5 x6 x7 x8 x9 x10 : Value) : Blk (((((((((((W.setCell ⟨b, 0, none⟩ (x0)).setCell ⟨b, 1, none⟩ (x1)).setCell ⟨b, 2, none⟩ (x2)).setCell ⟨b, 3, none⟩ (x3)).setCell ⟨b, 4, none⟩ (x4)).setCell ⟨b, 5, none⟩ (x5)).setCell ⟨b, 6, none⟩ (x6)).setCell ⟨b, 7, none⟩ (x7)).setCell ⟨b, 8, none⟩ (x8)).setCell ⟨b, 9, none⟩ (x9)).setCell ⟨b, 10, none⟩ (x10)) b t #[x0, x1, x2, x3, x4, x5, x6, x7, x8, x9, x10] := by
 have h0 := h.set 0 x0
 simp only [List.setIfInBounds_toArray, List.set_cons_succ, List.set_cons_zero] at h0
 have h1 := h0.set 1 x1
 simp only [List.setIfInBounds_toArray, List.set_cons_succ, List.set_cons_zero] at h1
 have h2 := h1.set 2 x2
 simp only [List.setIfInBounds_toArray, List.set_cons_succ, List.set_cons_zero] at h2
 have h3 := h2.set 3 x3
 simp only [List.setIfInBounds_toArray, List.set_cons_succ, List.set_cons_zero] at h3
 have h4 := h3.set 4 x4
 simp only [List.setIfInBounds_toArray, List.set_cons_succ, List.set_cons_zero] at h4
 have h5 := h4.set 5 x5
 simp only [List.setIfInBounds_toArray, List.set_cons_succ, List.set_cons_zero] at h5
 have h6 := h5.set 6 x6
 simp only [List.setIfInBounds_toArray, List.set_cons_succ, List.set_cons_zero] at h6
 have h7 := h6.set 7 x7
 simp only [List.setIfInBounds_toArray, List.set_cons_succ, List.set_cons_zero] at h7
 have h8 := h7.set 8 x8
 simp only [List.setIfInBounds_toArray, List.set_cons_succ, List.set_cons_zero] at h8
 have h9 := h8.set 9 x9
 simp only [List.setIfInBounds_toArray, List.set_cons_succ, List.set_cons_zero] at h9
 have h10 := h9.set 10 x10
 simp only [List.setIfInBounds_toArray, List.set_cons_succ, List.set_cons_zero] at h10
 exact h10
theorem below11 {w W : World} {b : Nat} (h : Below w.heap.size w W) (hb : w.heap.size ≤ b) (x0 x1 x2 x3 x4 x5 x6 x7 x8 x9 x10 : Value) : Below w.heap.size w (((((((((((W.setCell ⟨b, 0, none⟩ (x0)).setCell ⟨b, 1, none⟩ (x1)).setCell ⟨b, 2, none⟩ (x2)).setCell ⟨b, 3, none⟩ (x3)).setCell ⟨b, 4, none⟩ (x4)).setCell ⟨b, 5, none⟩ (x5)).setCell ⟨b, 6, none⟩ (x6)).setCell ⟨b, 7, none⟩ (x7)).setCell ⟨b, 8, none⟩ (x8)).setCell ⟨b, 9, none⟩ (x9)).setCell ⟨b, 10, none⟩ (x10)) := (Below.setCell (Below.setCell (Below.setCell (Below.setCell (Below.setCell (Below.setCell (Below.setCell (Below.setCell (Below.setCell (Below.setCell (Below.setCell h (p := ⟨b, 0, none⟩) hb x0) (p := ⟨b, 1, none⟩) hb x1) (p := ⟨b, 2, none⟩) hb x2) (p := ⟨b, 3, none⟩) hb x3) (p := ⟨b, 4, none⟩) hb x4) (p := ⟨b, 5, none⟩) hb x5) (p := ⟨b, 6, none⟩) hb x6) (p := ⟨b, 7, none⟩) hb x7) (p := ⟨b, 8, none⟩) hb x8) (p := ⟨b, 9, none⟩) hb x9) (p := ⟨b, 10, none⟩) hb x10)
theorem list9 {α : Type} {L : List α} (h : L.length = 9) : ∃ a b c d e f g i j, L = [a, b, c, d, e, f, g, i, j] := by
 match L, h with
 | [a, b, c, d, e, f, g, i, j], _ => exact ⟨a, b, c, d, e, f, g, i, j, rfl⟩
def rpB (k : Nat) (b1 b8 : ByteArray) (v2 v3 v4 : Int) : Array Value := #[.string b1, .int .i64 (if 0 < k then v2 else 0), .int .i64 (if 1 < k then v3 else 0), .int .i64 (if 2 < k then v4 else 0), .int .i64 0, .int .i64 0, .int .i64 0, .int .i64 0, .int .i64 0, .int .i64 0, .string b8]
theorem rpB_set0 {W : World} {R : Nat} {t : TypeId} {b1 b8 : ByteArray} {v2 v3 v4 : Int} (h : Blk W R t (rpB 0 b1 b8 v2 v3 v4)) : Blk (W.setCell ⟨R, 1, none⟩ (.int .i64 v2)) R t (rpB 1 b1 b8 v2 v3 v4) := by
 have h0 := h.set 1 (.int .i64 v2)
 simp only [rpB, List.setIfInBounds_toArray, List.set_cons_succ, List.set_cons_zero] at h0
 exact h0
theorem rpB_set1 {W : World} {R : Nat} {t : TypeId} {b1 b8 : ByteArray} {v2 v3 v4 : Int} (h : Blk W R t (rpB 1 b1 b8 v2 v3 v4)) : Blk (W.setCell ⟨R, 2, none⟩ (.int .i64 v3)) R t (rpB 2 b1 b8 v2 v3 v4) := by
 have h0 := h.set 2 (.int .i64 v3)
 simp only [rpB, List.setIfInBounds_toArray, List.set_cons_succ, List.set_cons_zero] at h0
 exact h0
theorem rpB_set2 {W : World} {R : Nat} {t : TypeId} {b1 b8 : ByteArray} {v2 v3 v4 : Int} (h : Blk W R t (rpB 2 b1 b8 v2 v3 v4)) : Blk (W.setCell ⟨R, 3, none⟩ (.int .i64 v4)) R t (rpB 3 b1 b8 v2 v3 v4) := by
 have h0 := h.set 3 (.int .i64 v4)
 simp only [rpB, List.setIfInBounds_toArray, List.set_cons_succ, List.set_cons_zero] at h0
 exact h0
theorem rp_day {W : World} {b : Nat} {t : TypeId} {u0 u1 u2 u3 u4 u5 u6 u7 u8 u9 u10 : Value} (h : Blk W b t #[u0, u1, u2, u3, u4, u5, u6, u7, u8, u9, u10]) (k wd n : Int) : Blk (((W.setCell ⟨b, 4, none⟩ (.int .i64 k)).setCell ⟨b, 5, none⟩ (.int .i64 wd)).setCell ⟨b, 6, none⟩ (.int .i64 n)) b t #[u0, u1, u2, u3, .int .i64 k, .int .i64 wd, .int .i64 n, u7, u8, u9, u10] := by
 have h0 := h.set 4 (.int .i64 k)
 simp only [List.setIfInBounds_toArray, List.set_cons_succ, List.set_cons_zero] at h0
 have h1 := h0.set 5 (.int .i64 wd)
 simp only [List.setIfInBounds_toArray, List.set_cons_succ, List.set_cons_zero] at h1
 have h2 := h1.set 6 (.int .i64 n)
 simp only [List.setIfInBounds_toArray, List.set_cons_succ, List.set_cons_zero] at h2
 exact h2
theorem rp_at {W : World} {b : Nat} {t : TypeId} {u0 u1 u2 u3 u4 u5 u6 u7 u8 u9 u10 : Value} (h : Blk W b t #[u0, u1, u2, u3, u4, u5, u6, u7, u8, u9, u10]) (x : Int) : Blk (W.setCell ⟨b, 7, none⟩ (.int .i64 x)) b t #[u0, u1, u2, u3, u4, u5, u6, .int .i64 x, u8, u9, u10] := by
 have h0 := h.set 7 (.int .i64 x)
 simp only [List.setIfInBounds_toArray, List.set_cons_succ, List.set_cons_zero] at h0
 exact h0
theorem rp_by {W : World} {b : Nat} {t : TypeId} {u0 u1 u2 u3 u4 u5 u6 u7 u8 u9 u10 : Value} (h : Blk W b t #[u0, u1, u2, u3, u4, u5, u6, u7, u8, u9, u10]) (x : Int) : Blk (W.setCell ⟨b, 8, none⟩ (.int .i64 x)) b t #[u0, u1, u2, u3, u4, u5, u6, u7, .int .i64 x, u9, u10] := by
 have h0 := h.set 8 (.int .i64 x)
 simp only [List.setIfInBounds_toArray, List.set_cons_succ, List.set_cons_zero] at h0
 exact h0
theorem rp_sv {W : World} {b : Nat} {t : TypeId} {u0 u1 u2 u3 u4 u5 u6 u7 u8 u9 u10 : Value} (h : Blk W b t #[u0, u1, u2, u3, u4, u5, u6, u7, u8, u9, u10]) (x : Int) : Blk (W.setCell ⟨b, 9, none⟩ (.int .i64 x)) b t #[u0, u1, u2, u3, u4, u5, u6, u7, u8, .int .i64 x, u10] := by
 have h0 := h.set 9 (.int .i64 x)
 simp only [List.setIfInBounds_toArray, List.set_cons_succ, List.set_cons_zero] at h0
 exact h0
theorem idx_at0 {s : ByteArray} {k : Nat} {c : UInt8} (z : Int) (hz : z = k) (hk : k < s.size) (hc : s[k]'hk = c) (w : World) : (Instr.index 9 (.string s) (.int .i64 z)).run Tryz.prog w = .ok (.int .u8 (c.toNat : Int)) w := by
 subst hz
 rw [run_index_string w _ _ _ _ Tryz.underlying9, dif_pos (by omega)]
 simp [hc]
theorem ix_by {l : List UInt8} {c : UInt8} (h : l.getLast? = some c) : (0 < Lib.indexByte [32, 115, 117] c ∧ byK l = Lib.indexByte [32, 115, 117] c) ∨ (¬ 0 < Lib.indexByte [32, 115, 117] c ∧ byK l = 0) := by
 unfold byK
 rw [h]
 by_cases h1 : c = 115
 ·subst h1; exact Or.inl (by decide)
 ·by_cases h2 : c = 117
  ·subst h2; exact Or.inl (by decide)
  ·right
   rw [if_neg (fun e => h1 (Option.some.inj e)), if_neg (fun e => h2 (Option.some.inj e))]
   refine ⟨?_, rfl⟩
   by_cases h3 : c = 32
   ·subst h3; decide
   ·have e1 : ((32 : UInt8) == c) = false := by rw [beq_eq_false_iff_ne]; exact fun e => h3 e.symm
    have e2 : ((115 : UInt8) == c) = false := by rw [beq_eq_false_iff_ne]; exact fun e => h1 e.symm
    have e3 : ((117 : UInt8) == c) = false := by rw [beq_eq_false_iff_ne]; exact fun e => h2 e.symm
    simp [Lib.indexByte, e1, e2, e3]
set_option maxRecDepth 100000 in
set_option maxHeartbeats 8000000 in
theorem u_Parse (s : ByteArray) (hs : s.size < 4294967281) (w : World) (P : RpW w) :
  Calls Tryz.prog 53 #[.string s] w fun e w' => ∃ r er, e = .returned (.tuple #[.agg (ruA r), .int .i64 er]) ∧ RdRu s r er ∧ Below w.heap.size w w' := by
 have HP := Lib.hid P
 clear P
 have hb1 := (Below.refl w.heap.size w).alloc (Nat.le_refl _) (.cells #[.string ⟨#[]⟩, .int .i64 0, .int .i64 0, .int .i64 0, .int .i64 0, .int .i64 0, .int .i64 0, .int .i64 0, .int .i64 0, .int .i64 0, .string ⟨#[]⟩] 70)
 have k1 := Blk.new w #[.string ⟨#[]⟩, .int .i64 0, .int .i64 0, .int .i64 0, .int .i64 0, .int .i64 0, .int .i64 0, .int .i64 0, .int .i64 0, .int .i64 0, .string ⟨#[]⟩] 70
 obtain ⟨W, hW⟩ : ∃ W, w.alloc (.cells #[.string ⟨#[]⟩, .int .i64 0, .int .i64 0, .int .i64 0, .int .i64 0, .int .i64 0, .int .i64 0, .int .i64 0, .int .i64 0, .int .i64 0, .string ⟨#[]⟩] 70) = W := ⟨_, rfl⟩
 rw [hW] at hb1 k1
 obtain ⟨B, hBe⟩ : ∃ B, w.heap.size = B := ⟨_, rfl⟩
 rw [hBe] at k1
 have HB := Lib.hid hb1
 have HT := Lib.hid k1
 have HBe := Lib.hid hBe
 clear hb1 k1
 go_enter Tryz.func53, Tryz.ntmps53
 go_wp2_with fail
 refine (split_one s 32 hs _).mono ?_
 rintro e w1 ⟨ws, hws, rfl, rfl⟩
 have HX := Lib.hid (Blk.new W (ws.map Value.string).toArray 9)
 have hb2 := (Below.refl W.heap.size W).alloc (Nat.le_refl _) (.cells (ws.map Value.string).toArray 9)
 replace HT := Lib.hid (HT.out.step hb2)
 replace HB := Lib.hid (HB.out.trans (hb2.mono HB.out.size))
 obtain ⟨W1, hW1⟩ : ∃ W1, W.alloc (.cells (ws.map Value.string).toArray 9) = W1 := ⟨_, rfl⟩
 obtain ⟨C, hC⟩ : ∃ C, W.heap.size = C := ⟨_, rfl⟩
 rw [hW1] at HX HT HB
 rw [hC] at HX
 clear hb2
 have HWS := Lib.hid hws
 clear hws
 by_cases h9 : ws.length = 9
 rotate_left
 ·have hn9 : ((ws.length : Int) != 9) = true := by rw [bne_iff_ne]; omega
  have HR := Lib.hid (ru_none (s := s) (fun w0 w1 w2 w3 w4 w5 w6 w7 w8 _ _ e => h9 (by have h := congrArg List.length (HWS.out.trans e); simpa using h)))
  clear h9 HWS
  have tr := HT.out.frz
  have tl := HT.out.lt
  have tc := HT.out.cell
  go_wp2_with fail
  have HF := Lib.hid (blk11 HT.out (.string ⟨#[]⟩) (.int .i64 0) (.int .i64 0) (.int .i64 0) (.int .i64 0) (.int .i64 0) (.int .i64 0) (.int .i64 0) (.int .i64 0) (.int .i64 0) (.string ⟨#[]⟩))
  have HBF := Lib.hid (below11 HB.out (Nat.le_of_eq HBe.out) (.string ⟨#[]⟩) (.int .i64 0) (.int .i64 0) (.int .i64 0) (.int .i64 0) (.int .i64 0) (.int .i64 0) (.int .i64 0) (.int .i64 0) (.int .i64 0) (.string ⟨#[]⟩))
  obtain ⟨U, hU⟩ : ∃ U, (((((((((((W1.setCell ⟨B, 0, none⟩ (.string ⟨#[]⟩)).setCell ⟨B, 1, none⟩ (.int .i64 0)).setCell ⟨B, 2, none⟩ (.int .i64 0)).setCell ⟨B, 3, none⟩ (.int .i64 0)).setCell ⟨B, 4, none⟩ (.int .i64 0)).setCell ⟨B, 5, none⟩ (.int .i64 0)).setCell ⟨B, 6, none⟩ (.int .i64 0)).setCell ⟨B, 7, none⟩ (.int .i64 0)).setCell ⟨B, 8, none⟩ (.int .i64 0)).setCell ⟨B, 9, none⟩ (.int .i64 0)).setCell ⟨B, 10, none⟩ (.string ⟨#[]⟩)) = U := ⟨_, rfl⟩
  rw [hU] at HF HBF
  try rw [hU]
  have hf := HF.out.cell
  exact bodyPost_ret (v := .tuple #[.agg #[.string ⟨#[]⟩, .int .i64 0, .int .i64 0, .int .i64 0, .int .i64 0, .int .i64 0, .int .i64 0, .int .i64 0, .int .i64 0, .int .i64 0, .string ⟨#[]⟩], .int .i64 3]) (by simp [results, Tryz.results53, go_sem, hf]) rfl ⟨default, _, rfl, HR.out, HBF.out⟩
 obtain ⟨b0, b1, b2, b3, b4, b5, b6, b7, b8, rfl⟩ := list9 h9
 clear h9
 have hsz : ∀ b ∈ [b0, b1, b2, b3, b4, b5, b6, b7, b8], b.size ≤ s.size := fun b hb => by
  have h1 := lSplit_len 32 s.data.toList b.data.toList (by rw [← HWS.out]; exact List.mem_map.2 ⟨b, hb, rfl⟩)
  have e1 : b.size = b.data.toList.length := Lib.size_eq _
  have e2 : s.size = s.data.toList.length := Lib.size_eq _
  omega
 have HSZ := Lib.hid hsz
 have hz1 := hsz b1 (by simp)
 have hz6 := hsz b6 (by simp)
 clear hsz
 have hm9 : ([b0, b1, b2, b3, b4, b5, b6, b7, b8].map Value.string).toArray = #[.string b0, .string b1, .string b2, .string b3, .string b4, .string b5, .string b6, .string b7, .string b8] := rfl
 rw [hm9] at hW1 HX
 rw [hm9, hW1, hC, show ([b0, b1, b2, b3, b4, b5, b6, b7, b8] : List ByteArray).length = 9 from rfl]
 clear hm9 hW1 hC hW
 have xc := HX.out.cell
 have xl := HX.out.lt
 cases h6 : b6.toList.isEmpty with
 | true =>
  have h60 : b6.data.toList = [] := by rw [ByteArray.toList_eq] at h6; exact List.isEmpty_iff.1 h6
  have HR := Lib.hid (ru_none (s := s) (fun w0 w1 w2 w3 w4 w5 w6 w7 w8 _ hn e => hn (by rw [← HWS.out] at e; simp only [List.map_cons, List.map_nil, List.cons.injEq, and_true] at e; rw [← e.2.2.2.2.2.2.1]; exact h60)))
  clear h60 HWS
  have tr := HT.out.frz
  have tl := HT.out.lt
  have tc := HT.out.cell
  go_wp2_with fail
  have HF := Lib.hid (blk11 HT.out (.string ⟨#[]⟩) (.int .i64 0) (.int .i64 0) (.int .i64 0) (.int .i64 0) (.int .i64 0) (.int .i64 0) (.int .i64 0) (.int .i64 0) (.int .i64 0) (.string ⟨#[]⟩))
  have HBF := Lib.hid (below11 HB.out (Nat.le_of_eq HBe.out) (.string ⟨#[]⟩) (.int .i64 0) (.int .i64 0) (.int .i64 0) (.int .i64 0) (.int .i64 0) (.int .i64 0) (.int .i64 0) (.int .i64 0) (.int .i64 0) (.string ⟨#[]⟩))
  obtain ⟨U, hU⟩ : ∃ U, (((((((((((W1.setCell ⟨B, 0, none⟩ (.string ⟨#[]⟩)).setCell ⟨B, 1, none⟩ (.int .i64 0)).setCell ⟨B, 2, none⟩ (.int .i64 0)).setCell ⟨B, 3, none⟩ (.int .i64 0)).setCell ⟨B, 4, none⟩ (.int .i64 0)).setCell ⟨B, 5, none⟩ (.int .i64 0)).setCell ⟨B, 6, none⟩ (.int .i64 0)).setCell ⟨B, 7, none⟩ (.int .i64 0)).setCell ⟨B, 8, none⟩ (.int .i64 0)).setCell ⟨B, 9, none⟩ (.int .i64 0)).setCell ⟨B, 10, none⟩ (.string ⟨#[]⟩)) = U := ⟨_, rfl⟩
  rw [hU] at HF HBF
  try rw [hU]
  have hf := HF.out.cell
  exact bodyPost_ret (v := .tuple #[.agg #[.string ⟨#[]⟩, .int .i64 0, .int .i64 0, .int .i64 0, .int .i64 0, .int .i64 0, .int .i64 0, .int .i64 0, .int .i64 0, .int .i64 0, .string ⟨#[]⟩], .int .i64 3]) (by simp [results, Tryz.results53, go_sem, hf]) rfl ⟨default, _, rfl, HR.out, HBF.out⟩
 | false =>
  go_upto_region 4 with fail
  clear xc xl
  refine wp_region_noPanic ?_
  refine wp_region_held_drew (S := fun W' : World => Below W1.heap.size W1 W') (by kernel_rfl) (Below.refl _ _).drew (fun hHeld0 => ?_)
  have hHeld := hHeld0
  clear hHeld0
  refine wpAnyH_take (i := 0) (v := ?_) rfl (by kernel_rfl) (by kernel_rfl) (by kernel_rfl) (fun _ _ _ h => h) (Or.inl ⟨by rfl, ?_⟩) hHeld ?_
  rotate_left
  ·intro wq hSw
   go_simp
   try with_reducible rfl
  try simp only [Act.put, List.getElem_toArray, List.getElem_cons_succ, List.getElem_cons_zero, List.setIfInBounds_toArray, List.set_cons_zero, List.set_cons_succ]
  refine wpAnyH_take (i := 1) (v := ?_) rfl (by kernel_rfl) (by kernel_rfl) (by kernel_rfl) (fun _ _ _ h => h) (Or.inl ⟨by rfl, ?_⟩) hHeld ?_
  rotate_left
  ·intro wq hSw
   go_simp
   try with_reducible rfl
  try simp only [Act.put, List.getElem_toArray, List.getElem_cons_succ, List.getElem_cons_zero, List.setIfInBounds_toArray, List.set_cons_zero, List.set_cons_succ]
  refine wpAnyH_take (i := 2) (v := ?_) rfl (by kernel_rfl) (by kernel_rfl) (by kernel_rfl) (fun _ _ _ h => h) (Or.inl ⟨by rfl, ?_⟩) hHeld ?_
  rotate_left
  ·intro wq hSw
   have xc := (HX.out.step hSw).cell
   have xl := (HX.out.step hSw).lt
   go_simp
   try with_reducible rfl
  try simp only [Act.put, List.getElem_toArray, List.getElem_cons_succ, List.getElem_cons_zero, List.setIfInBounds_toArray, List.set_cons_zero, List.set_cons_succ]
  refine wpAnyH_take (i := 3) (v := ?_) rfl (by kernel_rfl) (by kernel_rfl) (by kernel_rfl) (fun _ _ _ h => h) (Or.inl ⟨by rfl, ?_⟩) hHeld ?_
  rotate_left
  ·intro wq hSw
   go_simp
   try with_reducible rfl
  try simp only [Act.put, List.getElem_toArray, List.getElem_cons_succ, List.getElem_cons_zero, List.setIfInBounds_toArray, List.set_cons_zero, List.set_cons_succ]
  refine wpAnyH_take (i := 4) (v := ?_) rfl (by kernel_rfl) (by kernel_rfl) (by kernel_rfl) (fun _ _ _ h => h) (Or.inl ⟨by rfl, ?_⟩) hHeld ?_
  rotate_left
  ·intro wq hSw
   go_simp
   try with_reducible rfl
  try simp only [Act.put, List.getElem_toArray, List.getElem_cons_succ, List.getElem_cons_zero, List.setIfInBounds_toArray, List.set_cons_zero, List.set_cons_succ]
  refine wpAnyH_take (i := 5) (v := ?_) rfl (by kernel_rfl) (by kernel_rfl) (by kernel_rfl) (fun _ _ _ h => h) (Or.inl ⟨by rfl, ?_⟩) hHeld ?_
  rotate_left
  ·intro wq hSw
   have xc := (HX.out.step hSw).cell
   have xl := (HX.out.step hSw).lt
   go_simp
   try with_reducible rfl
  try simp only [Act.put, List.getElem_toArray, List.getElem_cons_succ, List.getElem_cons_zero, List.setIfInBounds_toArray, List.set_cons_zero, List.set_cons_succ]
  refine wpAnyH_take (i := 6) (v := ?_) rfl (by kernel_rfl) (by kernel_rfl) (by kernel_rfl) (fun _ _ _ h => h) (Or.inl ⟨by rfl, ?_⟩) hHeld ?_
  rotate_left
  ·intro wq hSw
   go_simp
   try with_reducible rfl
  try simp only [Act.put, List.getElem_toArray, List.getElem_cons_succ, List.getElem_cons_zero, List.setIfInBounds_toArray, List.set_cons_zero, List.set_cons_succ]
  refine wpAnyH_ready (rs := [7]) (by kernel_rfl) (by simp) ?_
  refine AllReadyH.cons rfl (fun K hK => ?_) AllReadyH.nil
  go_simp
  have hS8 := hHeld.alloc hHeld.size (.cells #[.string ⟨#[]⟩, .int .i64 0, .int .i64 0, .int .i64 0, .int .i64 0, .int .i64 0, .int .i64 0, .int .i64 0, .int .i64 0, .int .i64 0, .string ⟨#[]⟩] 70)
  refine hK.out _ _ hS8 (fun hHeld2 => ?_)
  clear hK K hHeld hHeld2
  have hHeld := hS8
  clear hS8
  try simp only [Act.put, List.getElem_toArray, List.getElem_cons_succ, List.getElem_cons_zero, List.setIfInBounds_toArray, List.set_cons_zero, List.set_cons_succ]
  have HR0 := Lib.hid (Blk.new' W1.drew #[.string ⟨#[]⟩, .int .i64 0, .int .i64 0, .int .i64 0, .int .i64 0, .int .i64 0, .int .i64 0, .int .i64 0, .int .i64 0, .int .i64 0, .string ⟨#[]⟩] 70 (n := W1.heap.size) rfl)
  refine wpAnyH_ready (rs := [8]) (by kernel_rfl) (by simp) ?_
  refine AllReadyH.cons rfl (fun K hK => ?_) AllReadyH.nil
  have q1 := HR0.out.cell
  have q2 := HR0.out.frz
  have q3 := HR0.out.lt
  have hS8 := ((Below.refl W1.heap.size W1).alloc (Nat.le_refl _) (.cells #[.string b1, .int .i64 0, .int .i64 0, .int .i64 0, .int .i64 0, .int .i64 0, .int .i64 0, .int .i64 0, .int .i64 0, .int .i64 0, .string b8] 70)).drew
  go_simp
  refine hK.out _ _ hS8 (fun hHeld2 => ?_)
  clear hK K q1 q2 q3 hHeld2 hHeld
  have hHeld := hS8
  clear hS8
  try simp only [Act.put, List.getElem_toArray, List.getElem_cons_succ, List.getElem_cons_zero, List.setIfInBounds_toArray, List.set_cons_zero, List.set_cons_succ]
  refine wpAnyH_done (by kernel_rfl) ?_ _
  refine NoPanic.normal ?_
  have HR := Lib.hid (Blk.new W1 #[.string b1, .int .i64 0, .int .i64 0, .int .i64 0, .int .i64 0, .int .i64 0, .int .i64 0, .int .i64 0, .int .i64 0, .int .i64 0, .string b8] 70).drew
  have hCR : C ≠ W1.heap.size := by have := HX.out.lt; omega
  have hBR : B ≠ W1.heap.size := by have := HT.out.lt; omega
  have hwR : w.heap.size ≤ W1.heap.size := HB.out.size
  replace HT := Lib.hid (HT.out.step hHeld)
  replace HX := Lib.hid (HX.out.step hHeld)
  replace HB := Lib.hid (HB.out.trans (hHeld.mono HB.out.size))
  obtain ⟨W2, hW2⟩ : ∃ W2, (W1.alloc (.cells #[.string b1, .int .i64 0, .int .i64 0, .int .i64 0, .int .i64 0, .int .i64 0, .int .i64 0, .int .i64 0, .int .i64 0, .int .i64 0, .string b8] 70)).drew = W2 := ⟨_, rfl⟩
  obtain ⟨R, hR⟩ : ∃ R, W1.heap.size = R := ⟨_, rfl⟩
  rw [hW2] at HT HX HB HR ⊢
  rw [hR] at HR hCR hBR hwR ⊢
  clear hW2 hR hHeld HR0
  have hV := (Below.refl W2.heap.size W2).alloc (Nat.le_refl _) (.cells #[.pointer (some ⟨R, 1, none⟩), .pointer (some ⟨R, 2, none⟩), .pointer (some ⟨R, 3, none⟩)] 156)
  have HPt := Lib.hid (Blk.new W2 #[.pointer (some ⟨R, 1, none⟩), .pointer (some ⟨R, 2, none⟩), .pointer (some ⟨R, 3, none⟩)] 156)
  have hPR : W2.heap.size ≠ R := by have := HR.out.lt; omega
  replace HT := Lib.hid (HT.out.step hV)
  replace HX := Lib.hid (HX.out.step hV)
  replace HR := Lib.hid (HR.out.step hV)
  replace HB := Lib.hid (HB.out.trans (hV.mono HB.out.size))
  clear hV
  go_wp2_with fail
  obtain ⟨W3, hW3⟩ : ∃ W3, W2.alloc (.cells #[.pointer (some ⟨R, 1, none⟩), .pointer (some ⟨R, 2, none⟩), .pointer (some ⟨R, 3, none⟩)] 156) = W3 := ⟨_, rfl⟩
  obtain ⟨Pb, hPb⟩ : ∃ Pb, W2.heap.size = Pb := ⟨_, rfl⟩
  rw [hW3] at HT HX HB HR HPt ⊢
  rw [hPb] at HPt hPR ⊢
  clear hW3 hPb
  obtain ⟨v2, hv2⟩ : ∃ v, atV b2.data.toList = v := ⟨_, rfl⟩
  obtain ⟨v3, hv3⟩ : ∃ v, atV b3.data.toList = v := ⟨_, rfl⟩
  obtain ⟨v4, hv4⟩ : ∃ v, atV b4.data.toList = v := ⟨_, rfl⟩
  have HV2 := Lib.hid hv2
  have HV3 := Lib.hid hv3
  have HV4 := Lib.hid hv4
  clear hv2 hv3 hv4
  go_loopw [36] (fun i wr => ∃ k : Nat, k ≤ 3 ∧ i = .int .i64 k ∧ Hid (Blk wr R 70 (rpB k b1 b8 v2 v3 v4)) ∧ Hid (Blk wr C 9 #[.string b0, .string b1, .string b2, .string b3, .string b4, .string b5, .string b6, .string b7, .string b8]) ∧ Hid (Blk wr Pb 156 #[.pointer (some ⟨R, 1, none⟩), .pointer (some ⟨R, 2, none⟩), .pointer (some ⟨R, 3, none⟩)]) ∧ Hid (Blk wr B 70 #[.string ⟨#[]⟩, .int .i64 0, .int .i64 0, .int .i64 0, .int .i64 0, .int .i64 0, .int .i64 0, .int .i64 0, .int .i64 0, .int .i64 0, .string ⟨#[]⟩]) ∧ Hid (Below w.heap.size w wr)) (fun i _ => 3 - (intOf i).toNat)
  case atStart => exact ⟨0, by omega, rfl, HR, HX, HPt, HT, HB⟩
  case round =>
   clear HR HX HPt HT HB
   obtain ⟨k, hk, rfl, HR, HX, HPt, HT, HB⟩ := hrel
   rcases (show k = 0 ∨ k = 1 ∨ k = 2 ∨ k = 3 by omega) with rfl | rfl | rfl | rfl
   ·have xc := HX.out.cell
    have xl := HX.out.lt
    have pc := HPt.out.cell
    have pl := HPt.out.lt
    have HA := Lib.hid ((HP.out.on HB.out).X.atoi b2 (by have := HSZ.out b2 (by simp); omega))
    rw [HV2.out] at HA
    go_wp2_with fail
    refine HA.out.mono ?_
    rintro e w5 ⟨er, rfl, hb⟩
    replace HX := Lib.hid (HX.out.step hb)
    replace HR := Lib.hid (HR.out.step hb)
    replace HPt := Lib.hid (HPt.out.step hb)
    replace HT := Lib.hid (HT.out.step hb)
    replace HB := Lib.hid (HB.out.trans (hb.mono HB.out.size))
    clear hb HA xc xl pc pl
    have rc := HR.out.cell 1
    have rz := HR.out.frz 1
    have rl := HR.out.lt
    simp [rpB] at rc
    go_wp2_with fail
    exact ⟨⟨1, by omega, by go_num, Lib.hid (rpB_set0 HR.out), Lib.hid (HX.out.far (a := ⟨R, 1, none⟩) hCR _), Lib.hid (HPt.out.far (a := ⟨R, 1, none⟩) hPR _), Lib.hid (HT.out.far (a := ⟨R, 1, none⟩) hBR _), Lib.hid (HB.out.setCell (p := ⟨R, 1, none⟩) hwR _)⟩, by simp only [intOf]; omega⟩
   ·have xc := HX.out.cell
    have xl := HX.out.lt
    have pc := HPt.out.cell
    have pl := HPt.out.lt
    have HA := Lib.hid ((HP.out.on HB.out).X.atoi b3 (by have := HSZ.out b3 (by simp); omega))
    rw [HV3.out] at HA
    go_wp2_with fail
    refine HA.out.mono ?_
    rintro e w5 ⟨er, rfl, hb⟩
    replace HX := Lib.hid (HX.out.step hb)
    replace HR := Lib.hid (HR.out.step hb)
    replace HPt := Lib.hid (HPt.out.step hb)
    replace HT := Lib.hid (HT.out.step hb)
    replace HB := Lib.hid (HB.out.trans (hb.mono HB.out.size))
    clear hb HA xc xl pc pl
    have rc := HR.out.cell 2
    have rz := HR.out.frz 2
    have rl := HR.out.lt
    simp [rpB] at rc
    go_wp2_with fail
    exact ⟨⟨2, by omega, by go_num, Lib.hid (rpB_set1 HR.out), Lib.hid (HX.out.far (a := ⟨R, 2, none⟩) hCR _), Lib.hid (HPt.out.far (a := ⟨R, 2, none⟩) hPR _), Lib.hid (HT.out.far (a := ⟨R, 2, none⟩) hBR _), Lib.hid (HB.out.setCell (p := ⟨R, 2, none⟩) hwR _)⟩, by simp only [intOf]; omega⟩
   ·have xc := HX.out.cell
    have xl := HX.out.lt
    have pc := HPt.out.cell
    have pl := HPt.out.lt
    have HA := Lib.hid ((HP.out.on HB.out).X.atoi b4 (by have := HSZ.out b4 (by simp); omega))
    rw [HV4.out] at HA
    go_wp2_with fail
    refine HA.out.mono ?_
    rintro e w5 ⟨er, rfl, hb⟩
    replace HX := Lib.hid (HX.out.step hb)
    replace HR := Lib.hid (HR.out.step hb)
    replace HPt := Lib.hid (HPt.out.step hb)
    replace HT := Lib.hid (HT.out.step hb)
    replace HB := Lib.hid (HB.out.trans (hb.mono HB.out.size))
    clear hb HA xc xl pc pl
    have rc := HR.out.cell 3
    have rz := HR.out.frz 3
    have rl := HR.out.lt
    simp [rpB] at rc
    go_wp2_with fail
    exact ⟨⟨3, by omega, by go_num, Lib.hid (rpB_set2 HR.out), Lib.hid (HX.out.far (a := ⟨R, 3, none⟩) hCR _), Lib.hid (HPt.out.far (a := ⟨R, 3, none⟩) hPR _), Lib.hid (HT.out.far (a := ⟨R, 3, none⟩) hBR _), Lib.hid (HB.out.setCell (p := ⟨R, 3, none⟩) hwR _)⟩, by simp only [intOf]; omega⟩
   ·replace HR := Lib.hid (show Blk wr R 70 #[.string b1, .int .i64 v2, .int .i64 v3, .int .i64 v4, .int .i64 0, .int .i64 0, .int .i64 0, .int .i64 0, .int .i64 0, .int .i64 0, .string b8] from HR.out)
    clear HPt hPR
    generalize wr = V at *
    have xc := HX.out.cell
    have xl := HX.out.lt
    have HD := Lib.hid (d_Read b5 (by have := HSZ.out b5 (by simp); omega) V (HP.out.on HB.out).X)
    go_wp2_with fail
    refine HD.out.mono ?_
    rintro e w5 ⟨kd, wd, nd, e1, rfl, hd, hb⟩
    have HDy := Lib.hid hd
    replace HX := Lib.hid (HX.out.step hb)
    replace HR := Lib.hid (HR.out.step hb)
    replace HT := Lib.hid (HT.out.step hb)
    replace HB := Lib.hid (HB.out.trans (hb.mono HB.out.size))
    clear hb HD hd xc xl
    have rc := HR.out.cell
    have rz := HR.out.frz
    have rl := HR.out.lt
    go_upto_region 11 with fail
    replace HR := Lib.hid (rp_day HR.out kd wd nd)
    replace HX := Lib.hid (((HX.out.far (a := ⟨R, 4, none⟩) hCR (.int .i64 kd)).far (a := ⟨R, 5, none⟩) hCR (.int .i64 wd)).far (a := ⟨R, 6, none⟩) hCR (.int .i64 nd))
    replace HT := Lib.hid (((HT.out.far (a := ⟨R, 4, none⟩) hBR (.int .i64 kd)).far (a := ⟨R, 5, none⟩) hBR (.int .i64 wd)).far (a := ⟨R, 6, none⟩) hBR (.int .i64 nd))
    replace HB := Lib.hid (((HB.out.setCell (p := ⟨R, 4, none⟩) hwR (.int .i64 kd)).setCell (p := ⟨R, 5, none⟩) hwR (.int .i64 wd)).setCell (p := ⟨R, 6, none⟩) hwR (.int .i64 nd))
    obtain ⟨V2, hV2⟩ : ∃ V2, ((w5.setCell ⟨R, 4, none⟩ (.int .i64 kd)).setCell ⟨R, 5, none⟩ (.int .i64 wd)).setCell ⟨R, 6, none⟩ (.int .i64 nd) = V2 := ⟨_, rfl⟩
    rw [hV2] at HR HX HT HB ⊢
    clear hV2 rc rz rl
    have h60 : 0 < b6.size := by
     rw [Lib.size_eq]
     rw [ByteArray.toList_eq] at h6
     cases e : b6.data.toList with
     | nil => rw [e] at h6; cases h6
     | cons x y => simp
    have e6 : b6.size = b6.data.toList.length := Lib.size_eq b6
    obtain ⟨c, hc⟩ : ∃ c, b6.data.toList.getLast? = some c := by
     cases e : b6.data.toList.getLast? with
     | some c => exact ⟨c, rfl⟩
     | none => rw [List.getLast?_eq_none_iff] at e; rw [e, List.length_nil] at e6; omega
    have hck : b6[b6.size - 1]'(by omega) = c := by
     rw [List.getLast?_eq_getElem?] at hc
     have h1 : b6[b6.size - 1]'(by omega) = b6.data.toList[b6.data.toList.length - 1]'(by omega) := by
      simp only [← e6]; rfl
     rw [h1]
     exact Option.some.inj ((List.getElem?_eq_getElem (by omega)).symm.trans hc)
    have hix : ∀ V : World, (Instr.index 9 (.string b6) (.int .i64 ((b6.size : Int) - 1))).run Tryz.prog V = .ok (.int .u8 (c.toNat : Int)) V := fun V => idx_at0 (k := b6.size - 1) _ (by omega) (by omega) hck V
    have hw6 : IntKind.i64.wrap ((b6.size : Int) - 1) = (b6.size : Int) - 1 := IntWalk.i64_in _ (by omega)
    obtain ⟨bb, hbb⟩ : ∃ bb, byK b6.data.toList = bb := ⟨_, rfl⟩
    have HBB := Lib.hid hbb
    have xc := HX.out.cell
    have xl := HX.out.lt
    have HC6 := Lib.hid hc
    clear hc hck e6
    go_wp2_with fail
    refine (Tryz.strings_IndexByte ⟨#[32, 115, 117]⟩ (c.toNat : Int) V2).mono ?_
    rintro e w6 ⟨rfl, rfl⟩
    obtain ⟨kk, hkk⟩ : ∃ kk, Lib.indexByte (⟨#[32, 115, 117]⟩ : ByteArray).data.toList ((c.toNat : Int)).toNat.toUInt8 = kk := ⟨_, rfl⟩
    rw [hkk]
    have HKK := Lib.hid (show (0 < kk ∧ bb = kk) ∨ (¬ 0 < kk ∧ bb = 0) by
     have h := ix_by HC6.out
     rw [hbb] at h
     rw [← hkk]
     simpa using h)
    clear hkk hbb hix
    go_upto_if 71 with fail
    clear xc xl
    go_cut [8] from 12 (fun v8 wx => ∃ at_ : ByteArray, v8 = .string at_ ∧ Hid (at_.data.toList = atK b6.data.toList ∧ at_.size ≤ s.size) ∧ Hid (Blk wx R 70 #[.string b1, .int .i64 v2, .int .i64 v3, .int .i64 v4, .int .i64 kd, .int .i64 wd, .int .i64 nd, .int .i64 0, .int .i64 bb, .int .i64 0, .string b8]) ∧ Hid (Blk wx C 9 #[.string b0, .string b1, .string b2, .string b3, .string b4, .string b5, .string b6, .string b7, .string b8]) ∧ Hid (Blk wx B 70 #[.string ⟨#[]⟩, .int .i64 0, .int .i64 0, .int .i64 0, .int .i64 0, .int .i64 0, .int .i64 0, .int .i64 0, .int .i64 0, .int .i64 0, .string ⟨#[]⟩]) ∧ Hid (Below w.heap.size w wx))
    case first =>
     rcases HKK.out with ⟨hk1, hk2⟩ | ⟨hk1, hk2⟩
     ·have hE : (b6.extract 0 (b6.size - 1)).data.toList = atK b6.data.toList ∧ (b6.extract 0 (b6.size - 1)).size ≤ s.size := by
       refine ⟨?_, ?_⟩
       ·unfold atK
        rw [HBB.out, if_neg (by omega), Lib.extract_from_zero, List.dropLast_eq_take, ← Lib.size_eq]
       ·rw [ByteArray.size_extract]; omega
      have HE := Lib.hid hE
      have HK2 := Lib.hid hk2
      clear hE hk2 HKK
      go_upto_region 14 with fail
      refine wp_region_noPanic ?_
      refine wp_region_held_drew (S := fun W' : World => Below w.heap.size w W') (by kernel_rfl) HB.out.drew (fun hHeld0 => ?_)
      have hHeld := hHeld0
      clear hHeld0
      refine wpAnyH_take (i := 0) (v := ?_) rfl (by kernel_rfl) (by kernel_rfl) (by kernel_rfl) (fun _ _ _ h => h) (Or.inl ⟨by rfl, ?_⟩) hHeld ?_
      rotate_left
      ·intro wq hSw
       go_simp
       try with_reducible rfl
      try simp only [Act.put, List.getElem_toArray, List.getElem_cons_succ, List.getElem_cons_zero, List.setIfInBounds_toArray, List.set_cons_zero, List.set_cons_succ]
      refine wpAnyH_take (i := 1) (v := ?_) rfl (by kernel_rfl) (by kernel_rfl) (by kernel_rfl) (fun _ _ _ h => h) (Or.inl ⟨by rfl, ?_⟩) hHeld ?_
      rotate_left
      ·intro wq hSw
       go_simp
       try with_reducible rfl
      try simp only [Act.put, List.getElem_toArray, List.getElem_cons_succ, List.getElem_cons_zero, List.setIfInBounds_toArray, List.set_cons_zero, List.set_cons_succ]
      refine wpAnyH_take (i := 2) (v := ?_) rfl (by kernel_rfl) (by kernel_rfl) (by kernel_rfl) (fun _ _ _ h => h) (Or.inl ⟨by rfl, ?_⟩) hHeld ?_
      rotate_left
      ·intro wq hSw
       go_simp
       try with_reducible rfl
      try simp only [Act.put, List.getElem_toArray, List.getElem_cons_succ, List.getElem_cons_zero, List.setIfInBounds_toArray, List.set_cons_zero, List.set_cons_succ]
      refine wpAnyH_take (i := 3) (v := ?_) rfl (by kernel_rfl) (by kernel_rfl) (by kernel_rfl) (fun _ _ _ h => h) (Or.inl ⟨by rfl, ?_⟩) hHeld ?_
      rotate_left
      ·intro wq hSw
       go_simp
       try with_reducible rfl
      try simp only [Act.put, List.getElem_toArray, List.getElem_cons_succ, List.getElem_cons_zero, List.setIfInBounds_toArray, List.set_cons_zero, List.set_cons_succ]
      refine wpAnyH_take (i := 4) (v := ?_) rfl (by kernel_rfl) (by kernel_rfl) (by kernel_rfl) (fun _ _ _ h => h) (Or.inl ⟨by rfl, ?_⟩) hHeld ?_
      rotate_left
      ·intro wq hSw
       go_simp
       try with_reducible rfl
      try simp only [Act.put, List.getElem_toArray, List.getElem_cons_succ, List.getElem_cons_zero, List.setIfInBounds_toArray, List.set_cons_zero, List.set_cons_succ]
      refine wpAnyH_take (i := 5) (v := ?_) rfl (by kernel_rfl) (by kernel_rfl) (by kernel_rfl) (fun _ _ _ h => h) (Or.inl ⟨by rfl, ?_⟩) hHeld ?_
      rotate_left
      ·intro wq hSw
       have h51 : (1 : Int) ≤ (b6.size : Int) := by omega
       have h52 : (b6.size : Int) - 1 ≤ (b6.size : Int) := by omega
       go_simp
       try with_reducible rfl
      try simp only [Act.put, List.getElem_toArray, List.getElem_cons_succ, List.getElem_cons_zero, List.setIfInBounds_toArray, List.set_cons_zero, List.set_cons_succ]
      refine wpAnyH_take (i := 6) (v := ?_) rfl (by kernel_rfl) (by kernel_rfl) (by kernel_rfl) (fun _ _ _ h => h) (Or.inl ⟨by rfl, ?_⟩) hHeld ?_
      rotate_left
      ·intro wq hSw
       go_simp
       try with_reducible rfl
      try simp only [Act.put, List.getElem_toArray, List.getElem_cons_succ, List.getElem_cons_zero, List.setIfInBounds_toArray, List.set_cons_zero, List.set_cons_succ]
      refine wpAnyH_ready (rs := [7]) (by kernel_rfl) (by simp) ?_
      refine AllReadyH.cons rfl (fun K hK => ?_) AllReadyH.nil
      have q1 := HR.out.drew.cell
      have q2 := HR.out.drew.frz
      have q3 := HR.out.drew.lt
      have hS8 := hHeld.setCell (p := ⟨R, 8, none⟩) hwR (.int .i64 kk)
      go_simp
      refine hK.out _ _ hS8 (fun hHeld2 => ?_)
      clear hK K q1 q2 q3 hHeld2 hHeld
      have hHeld := hS8
      clear hS8
      try simp only [Act.put, List.getElem_toArray, List.getElem_cons_succ, List.getElem_cons_zero, List.setIfInBounds_toArray, List.set_cons_zero, List.set_cons_succ]
      refine wpAnyH_take (i := 8) (v := ?_) rfl (by kernel_rfl) (by kernel_rfl) (by kernel_rfl) (fun _ _ _ h => h) (Or.inl ⟨by rfl, ?_⟩) hHeld ?_
      rotate_left
      ·intro wq hSw
       go_simp
       try with_reducible rfl
      try simp only [Act.put, List.getElem_toArray, List.getElem_cons_succ, List.getElem_cons_zero, List.setIfInBounds_toArray, List.set_cons_zero, List.set_cons_succ]
      refine wpAnyH_done (by kernel_rfl) ?_ _
      refine NoPanic.normal ?_
      have HR9 := Lib.hid (rp_by HR.out.drew kk)
      have HX9 := Lib.hid (HX.out.drew.far (a := ⟨R, 8, none⟩) hCR (.int .i64 kk))
      have HT9 := Lib.hid (HT.out.drew.far (a := ⟨R, 8, none⟩) hBR (.int .i64 kk))
      have HB9 := Lib.hid hHeld
      clear hHeld
      try go_wp2_with fail
      go_meet
      exact ⟨_, rfl, HE, Lib.hid (by rw [HK2.out]; exact HR9.out), HX9, HT9, HB9⟩
     ·have HE := Lib.hid (show b6.data.toList = atK b6.data.toList ∧ b6.size ≤ s.size from ⟨by unfold atK; rw [HBB.out, if_pos hk2], hz6⟩)
      have HK2 := Lib.hid hk2
      clear hk2 HKK
      go_wp2_with fail
      go_meet
      exact ⟨_, rfl, HE, Lib.hid (by rw [HK2.out]; exact HR.out), HX, HT, HB⟩
    case rest =>
     clear HR HX HT HB HKK h60 hw6
     obtain ⟨at_, hv, HAT, HR, HX, HT, HB⟩ := hcut
     subst hv
     have hatz := HAT.out.2
     have HSp := Lib.hid ((HP.out.on HB.out).S.span at_ (by omega))
     go_wp2_with fail
     refine HSp.out.mono ?_
     rintro e w7 ⟨va, e2, rfl, ha, hb⟩
     have HA7 := Lib.hid ha
     replace HX := Lib.hid (HX.out.step hb)
     replace HR := Lib.hid (HR.out.step hb)
     replace HT := Lib.hid (HT.out.step hb)
     replace HB := Lib.hid (HB.out.trans (hb.mono HB.out.size))
     clear hb ha HSp
     have rc := HR.out.cell
     have rz := HR.out.frz
     have rl := HR.out.lt
     go_upto_region 16 with fail
     replace HR := Lib.hid (rp_at HR.out va)
     replace HX := Lib.hid (HX.out.far (a := ⟨R, 7, none⟩) hCR (.int .i64 va))
     replace HT := Lib.hid (HT.out.far (a := ⟨R, 7, none⟩) hBR (.int .i64 va))
     replace HB := Lib.hid (HB.out.setCell (p := ⟨R, 7, none⟩) hwR (.int .i64 va))
     obtain ⟨V3, hVn⟩ : ∃ V, w7.setCell ⟨R, 7, none⟩ (.int .i64 va) = V := ⟨_, rfl⟩
     rw [hVn] at HR HX HT HB ⊢
     clear hVn rc rz rl
     have xc := HX.out.cell
     have xl := HX.out.lt
     have HSp := Lib.hid ((HP.out.on HB.out).S.span b7 (by have := HSZ.out b7 (by simp); omega))
     go_wp2_with fail
     refine HSp.out.mono ?_
     rintro e w7 ⟨vs, e3, rfl, ha, hb⟩
     have HA9 := Lib.hid ha
     replace HX := Lib.hid (HX.out.step hb)
     replace HR := Lib.hid (HR.out.step hb)
     replace HT := Lib.hid (HT.out.step hb)
     replace HB := Lib.hid (HB.out.trans (hb.mono HB.out.size))
     clear hb ha HSp xc xl
     have rc := HR.out.cell
     have rz := HR.out.frz
     have rl := HR.out.lt
     go_upto_region 17 with fail
     replace HR := Lib.hid (rp_sv HR.out vs)
     replace HX := Lib.hid (HX.out.far (a := ⟨R, 9, none⟩) hCR (.int .i64 vs))
     replace HT := Lib.hid (HT.out.far (a := ⟨R, 9, none⟩) hBR (.int .i64 vs))
     replace HB := Lib.hid (HB.out.setCell (p := ⟨R, 9, none⟩) hwR (.int .i64 vs))
     obtain ⟨V4, hVn⟩ : ∃ V, w7.setCell ⟨R, 9, none⟩ (.int .i64 vs) = V := ⟨_, rfl⟩
     rw [hVn] at HR HX HT HB ⊢
     clear hVn rc rz rl
     have rc := HR.out.cell
     have rl := HR.out.lt
     have HTx := Lib.hid (u_Text b1 b8 v2 v3 v4 kd wd nd va bb vs (by unfold maxLen; omega) (by have := HSZ.out b8 (by simp); unfold maxLen; omega) V4 (fun y hy => (HP.out.on HB.out).S.it y (by omega)) (HP.out.on HB.out).T)
     have HXV := Lib.hid (fun (h : ruleE b1 b8 v2 v3 v4 kd wd nd va bb vs = 0) => (show rxV b1 b8 v2 v3 v4 kd wd nd va bb vs = ruTx ⟨b1, v2, v3, v4, kd, wd, nd, va, bb, vs, b8⟩ by unfold rxV; rw [if_pos h]; rfl))
     have HEr := Lib.hid (show ruEr ⟨b1, v2, v3, v4, kd, wd, nd, va, bb, vs, b8⟩ = ruleE b1 b8 v2 v3 v4 kd wd nd va bb vs from rfl)
     have HNo := Lib.hid (fun (h : ruEr ⟨b1, v2, v3, v4, kd, wd, nd, va, bb, vs, b8⟩ = 0 → ruTx ⟨b1, v2, v3, v4, kd, wd, nd, va, bb, vs, b8⟩ ≠ s) => ru_end HWS.out HAT.out.1 HDy.out HA7.out HA9.out HV2.out.symm HV3.out.symm HV4.out.symm HBB.out.symm h)
     obtain ⟨TX, hTX⟩ : ∃ x, rxV b1 b8 v2 v3 v4 kd wd nd va bb vs = x := ⟨_, rfl⟩
     obtain ⟨TE, hTE⟩ : ∃ x, ruleE b1 b8 v2 v3 v4 kd wd nd va bb vs = x := ⟨_, rfl⟩
     rw [hTX, hTE] at HTx HXV
     rw [hTE] at HEr
     clear hTX hTE HWS HAT HDy HA7 HA9 HV2 HV3 HV4 HBB HX
     go_wp2_with fail
     refine HTx.out.mono ?_
     rintro e w9 ⟨rfl, hb⟩
     replace HR := Lib.hid (HR.out.step hb)
     replace HT := Lib.hid (HT.out.step hb)
     replace HB := Lib.hid (HB.out.trans (hb.mono HB.out.size))
     clear hb HTx rc rl
     by_cases h0 : TE = 0
     ·subst h0
      by_cases hts : TX = s
      ·have hd : (TX.toList == s.toList) = true := by rw [hts]; exact beq_self_eq_true _
       have hd2 : (TX.toList != s.toList) = false := by rw [hts]; exact bne_self_eq_false _
       have HRD := Lib.hid (show RdRu s ⟨b1, v2, v3, v4, kd, wd, nd, va, bb, vs, b8⟩ 0 from Or.inl ⟨HEr.out, by rw [← HXV.out rfl, hts], rfl⟩)
       clear HNo HXV HEr hts
       have rc := HR.out.cell
       have rl := HR.out.lt
       have tr := HT.out.frz
       have tl := HT.out.lt
       have tc := HT.out.cell
       go_wp2_with fail
       have HF := Lib.hid (blk11 HT.out (.string b1) (.int .i64 v2) (.int .i64 v3) (.int .i64 v4) (.int .i64 kd) (.int .i64 wd) (.int .i64 nd) (.int .i64 va) (.int .i64 bb) (.int .i64 vs) (.string b8))
       have HBF := Lib.hid (below11 HB.out (Nat.le_of_eq HBe.out) (.string b1) (.int .i64 v2) (.int .i64 v3) (.int .i64 v4) (.int .i64 kd) (.int .i64 wd) (.int .i64 nd) (.int .i64 va) (.int .i64 bb) (.int .i64 vs) (.string b8))
       obtain ⟨U, hU⟩ : ∃ U, (((((((((((w9.setCell ⟨B, 0, none⟩ (.string b1)).setCell ⟨B, 1, none⟩ (.int .i64 v2)).setCell ⟨B, 2, none⟩ (.int .i64 v3)).setCell ⟨B, 3, none⟩ (.int .i64 v4)).setCell ⟨B, 4, none⟩ (.int .i64 kd)).setCell ⟨B, 5, none⟩ (.int .i64 wd)).setCell ⟨B, 6, none⟩ (.int .i64 nd)).setCell ⟨B, 7, none⟩ (.int .i64 va)).setCell ⟨B, 8, none⟩ (.int .i64 bb)).setCell ⟨B, 9, none⟩ (.int .i64 vs)).setCell ⟨B, 10, none⟩ (.string b8)) = U := ⟨_, rfl⟩
       rw [hU] at HF HBF
       try rw [hU]
       have hf := HF.out.cell
       exact bodyPost_ret (v := .tuple #[.agg #[.string b1, .int .i64 v2, .int .i64 v3, .int .i64 v4, .int .i64 kd, .int .i64 wd, .int .i64 nd, .int .i64 va, .int .i64 bb, .int .i64 vs, .string b8], .int .i64 0]) (by simp [results, Tryz.results53, go_sem, hf]) rfl ⟨⟨b1, v2, v3, v4, kd, wd, nd, va, bb, vs, b8⟩, _, rfl, HRD.out, HBF.out⟩
      ·have hd : (TX.toList == s.toList) = false := str_ne hts
       have hd2 : (TX.toList != s.toList) = true := by rw [bne, hd]; rfl
       have HRD := Lib.hid (HNo.out (fun _ => by rw [← HXV.out rfl]; exact hts))
       clear HNo HXV HEr hts HR
       have tr := HT.out.frz
       have tl := HT.out.lt
       have tc := HT.out.cell
       go_wp2_with fail
       have HF := Lib.hid (blk11 HT.out (.string ⟨#[]⟩) (.int .i64 0) (.int .i64 0) (.int .i64 0) (.int .i64 0) (.int .i64 0) (.int .i64 0) (.int .i64 0) (.int .i64 0) (.int .i64 0) (.string ⟨#[]⟩))
       have HBF := Lib.hid (below11 HB.out (Nat.le_of_eq HBe.out) (.string ⟨#[]⟩) (.int .i64 0) (.int .i64 0) (.int .i64 0) (.int .i64 0) (.int .i64 0) (.int .i64 0) (.int .i64 0) (.int .i64 0) (.int .i64 0) (.string ⟨#[]⟩))
       obtain ⟨U, hU⟩ : ∃ U, (((((((((((w9.setCell ⟨B, 0, none⟩ (.string ⟨#[]⟩)).setCell ⟨B, 1, none⟩ (.int .i64 0)).setCell ⟨B, 2, none⟩ (.int .i64 0)).setCell ⟨B, 3, none⟩ (.int .i64 0)).setCell ⟨B, 4, none⟩ (.int .i64 0)).setCell ⟨B, 5, none⟩ (.int .i64 0)).setCell ⟨B, 6, none⟩ (.int .i64 0)).setCell ⟨B, 7, none⟩ (.int .i64 0)).setCell ⟨B, 8, none⟩ (.int .i64 0)).setCell ⟨B, 9, none⟩ (.int .i64 0)).setCell ⟨B, 10, none⟩ (.string ⟨#[]⟩)) = U := ⟨_, rfl⟩
       rw [hU] at HF HBF
       try rw [hU]
       have hf := HF.out.cell
       exact bodyPost_ret (v := .tuple #[.agg #[.string ⟨#[]⟩, .int .i64 0, .int .i64 0, .int .i64 0, .int .i64 0, .int .i64 0, .int .i64 0, .int .i64 0, .int .i64 0, .int .i64 0, .string ⟨#[]⟩], .int .i64 3]) (by simp [results, Tryz.results53, go_sem, hf]) rfl ⟨default, _, rfl, HRD.out, HBF.out⟩
     ·have h2 : (TE != 0) = true := by rw [bne_iff_ne]; exact h0
      have HRD := Lib.hid (HNo.out (fun h => absurd (HEr.out.symm.trans h) h0))
      clear HNo HXV HEr HR h0
      have tr := HT.out.frz
      have tl := HT.out.lt
      have tc := HT.out.cell
      go_wp2_with fail
      have HF := Lib.hid (blk11 HT.out (.string ⟨#[]⟩) (.int .i64 0) (.int .i64 0) (.int .i64 0) (.int .i64 0) (.int .i64 0) (.int .i64 0) (.int .i64 0) (.int .i64 0) (.int .i64 0) (.string ⟨#[]⟩))
      have HBF := Lib.hid (below11 HB.out (Nat.le_of_eq HBe.out) (.string ⟨#[]⟩) (.int .i64 0) (.int .i64 0) (.int .i64 0) (.int .i64 0) (.int .i64 0) (.int .i64 0) (.int .i64 0) (.int .i64 0) (.int .i64 0) (.string ⟨#[]⟩))
      obtain ⟨U, hU⟩ : ∃ U, (((((((((((w9.setCell ⟨B, 0, none⟩ (.string ⟨#[]⟩)).setCell ⟨B, 1, none⟩ (.int .i64 0)).setCell ⟨B, 2, none⟩ (.int .i64 0)).setCell ⟨B, 3, none⟩ (.int .i64 0)).setCell ⟨B, 4, none⟩ (.int .i64 0)).setCell ⟨B, 5, none⟩ (.int .i64 0)).setCell ⟨B, 6, none⟩ (.int .i64 0)).setCell ⟨B, 7, none⟩ (.int .i64 0)).setCell ⟨B, 8, none⟩ (.int .i64 0)).setCell ⟨B, 9, none⟩ (.int .i64 0)).setCell ⟨B, 10, none⟩ (.string ⟨#[]⟩)) = U := ⟨_, rfl⟩
      rw [hU] at HF HBF
      try rw [hU]
      have hf := HF.out.cell
      exact bodyPost_ret (v := .tuple #[.agg #[.string ⟨#[]⟩, .int .i64 0, .int .i64 0, .int .i64 0, .int .i64 0, .int .i64 0, .int .i64 0, .int .i64 0, .int .i64 0, .int .i64 0, .string ⟨#[]⟩], .int .i64 3]) (by simp [results, Tryz.results53, go_sem, hf]) rfl ⟨default, _, rfl, HRD.out, HBF.out⟩
end Go.Proofs.YthppifcggmdmoaaGreatDoor

