/- Part 44 of the proof of BookParses: no condition; what its declarations say stands at each. -/
import Derived.Test.YthppifcggmdmoaaGreatDoorJ43
import Derived.Test.YthppifcggmdmoaaGreatDoorJ25
namespace Go.Proofs.YthppifcggmdmoaaGreatDoor
open Go.RowKit
set_option linter.unusedVariables false
set_option linter.unusedSimpArgs false
attribute [local go_sem ↓] Go.wp_at_zero Go.wp_at_succ
theorem ln_rule {F : Rdr} {st : PbS} {s : ByteArray} (h0 : (wordB 32 s).getD 0 eMT = rULE) (h : ¬ (st.zs = [] ∧ st.ls = [] ∧ (F.ru s).2 = 0)) : LineIs F st s none :=
 Or.inr (Or.inr (Or.inr (Or.inr ⟨rfl, fun q => h q.2, fun q => words_ne.1 (h0.symm.trans q.1), fun q => words_ne.2.1 (h0.symm.trans q.1), fun q => words_ne.2.2.1 (h0.symm.trans q.1)⟩)))
theorem ln_zone {F : Rdr} {st : PbS} {s : ByteArray} (h0 : (wordB 32 s).getD 0 eMT = zONE) (h : ¬ (st.op = false ∧ st.ls = [] ∧ (wordB 32 s).length = 2)) : LineIs F st s none :=
 Or.inr (Or.inr (Or.inr (Or.inr ⟨rfl, fun q => words_ne.1 (q.1.symm.trans h0), fun q => h q.2, fun q => words_ne.2.2.2.1 (h0.symm.trans q.1), fun q => words_ne.2.2.2.2.1 (h0.symm.trans q.1)⟩)))
theorem ln_link {F : Rdr} {st : PbS} {s : ByteArray} (h0 : (wordB 32 s).getD 0 eMT = lINK) (h : ¬ (st.op = false ∧ (wordB 32 s).length = 3)) : LineIs F st s none :=
 Or.inr (Or.inr (Or.inr (Or.inr ⟨rfl, fun q => words_ne.2.1 (q.1.symm.trans h0), fun q => words_ne.2.2.2.1 (q.1.symm.trans h0), fun q => h q.2, fun q => words_ne.2.2.2.2.2 (h0.symm.trans q.1)⟩)))
theorem ln_era {F : Rdr} {st : PbS} {s : ByteArray} (h0 : (wordB 32 s).getD 0 eMT = eRA) (h : ¬ (st.op = true ∧ ((wordB 32 s).length = 4 ∨ (wordB 32 s).length = 5) ∧ eraG F (wordB 32 s))) : LineIs F st s none :=
 Or.inr (Or.inr (Or.inr (Or.inr ⟨rfl, fun q => words_ne.2.2.1 (q.1.symm.trans h0), fun q => words_ne.2.2.2.2.1 (q.1.symm.trans h0), fun q => words_ne.2.2.2.2.2 (q.1.symm.trans h0), fun q => h q.2⟩)))
def OkIs (ok : Bool) (C : Prop) : Prop := ok = true ↔ C
theorem n5b (n : Nat) : ((n : Int) == 5) = decide (n = 5) := by
 by_cases h : n = 5
 ·rw [decide_eq_true h, beq_iff_eq]; omega
 ·rw [decide_eq_false h, beq_eq_false_iff_ne]; omega
theorem ref_call {w : World} {base : Nat} {RV ZV LV : Value} {st : PbS} {zs : List ZoT} (G : PbG st) (hz : zs.map zoP = st.zs) (hM : PbM w base RV ZV LV st.rs zs st.ls) :
  Calls Tryz.prog 29 #[.agg #[RV, ZV, LV]] w fun e w' => e = .returned (.int .i64 (chkE st)) ∧ Below w.heap.size w w' := by
 obtain ⟨⟨AR, AZ, AL, cR, cZ, cL, rs', zs', ls'⟩, e1, e2, e3, e4, e5, e6, hD⟩ := hM.book (G.shut hz)
 simp only at e1 e2 e3 e4 e5 e6
 subst e1 e2 e3 e4 e5 e6
 have h := r_BookCheck' AR AZ AL cR cZ cL st.rs zs' st.ls w hD
 rw [chk_eq hz] at h
 exact h
set_option maxRecDepth 100000 in
set_option maxHeartbeats 4000000 in
theorem r_BookParse_short (F : Rdr) (s : ByteArray) (w : World) (h : 60000 < s.size ∨ s.size = 0) :
  Calls Tryz.prog 7 #[.string s] w (BpPost F s w) := by
 by_cases h1 : 60000 < s.size
 ·have HT := Lib.hid (Blk.new w #[.slice none 0 0, .slice none 0 0, .slice none 0 0] 26)
  have HB := Lib.hid ((Below.refl w.heap.size w).alloc (Nat.le_refl _) (.cells #[.slice none 0 0, .slice none 0 0, .slice none 0 0] 26))
  obtain ⟨W, hW⟩ : ∃ W, w.alloc (.cells #[.slice none 0 0, .slice none 0 0, .slice none 0 0] 26) = W := ⟨_, rfl⟩
  rw [hW] at HT HB
  have h1' : (60000 : Int) < (s.size : Int) := by omega
  have HR := Lib.hid (show BkIs F s pb0 0 2 from Or.inl ⟨h1, rfl, rfl, rfl⟩)
  clear h h1
  have tr := HT.out.frz
  have tl := HT.out.lt
  have tc := HT.out.cell
  go_enter Tryz.func7, Tryz.ntmps7
  go_wp2_with fail
  have HF := Lib.hid (bk3 HT.out (x := .slice none 0 0) (y := .slice none 0 0) (z := .slice none 0 0))
  have HBF := Lib.hid (show Below w.heap.size w (((W.setCell ⟨w.heap.size, 0, none⟩ (.slice none 0 0)).setCell ⟨w.heap.size, 1, none⟩ (.slice none 0 0)).setCell ⟨w.heap.size, 2, none⟩ (.slice none 0 0)) from below3 HB.out (Nat.le_refl _))
  obtain ⟨U, hU⟩ : ∃ U, (((W.setCell ⟨w.heap.size, 0, none⟩ (.slice none 0 0)).setCell ⟨w.heap.size, 1, none⟩ (.slice none 0 0)).setCell ⟨w.heap.size, 2, none⟩ (.slice none 0 0)) = U := ⟨_, rfl⟩
  rw [hU] at HF HBF
  try rw [hU]
  have hf := HF.out.cell
  exact bodyPost_ret (v := .tuple #[.agg #[.slice none 0 0, .slice none 0 0, .slice none 0 0], .int .i64 0, .int .i64 2]) (by simp [results, Tryz.results7, go_sem, hf]) rfl (bp_bad HR.out HBF.out)
 ·have h0 : s.size = 0 := by omega
  have h1' : ¬ (60000 : Int) < (s.size : Int) := by omega
  have HR := Lib.hid (show BkIs F s pb0 0 0 from Or.inr (Or.inl ⟨h0, rfl, rfl, rfl⟩))
  have hem : s.toList.isEmpty = true := by
   rw [ByteArray.toList_eq]
   have e : s.data.toList.length = 0 := by rw [← Lib.size_eq]; exact h0
   rw [List.length_eq_zero_iff.1 e]; rfl
  have hb1 := (Below.refl w.heap.size w).alloc (Nat.le_refl _) (.cells #[.slice none 0 0, .slice none 0 0, .slice none 0 0] 26)
  have hb2 := hb1.alloc (by rw [size_alloc]; omega) (.cells #[.slice none 0 0, .slice none 0 0, .slice none 0 0] 26)
  have k1 := (Blk.new w #[.slice none 0 0, .slice none 0 0, .slice none 0 0] 26).alloc (.cells #[.slice none 0 0, .slice none 0 0, .slice none 0 0] 26)
  have k2 := Blk.new (w.alloc (.cells #[.slice none 0 0, .slice none 0 0, .slice none 0 0] 26)) #[.slice none 0 0, .slice none 0 0, .slice none 0 0] 26
  rw [size_alloc] at k2
  obtain ⟨W, hW⟩ : ∃ W, (w.alloc (.cells #[.slice none 0 0, .slice none 0 0, .slice none 0 0] 26)).alloc (.cells #[.slice none 0 0, .slice none 0 0, .slice none 0 0] 26) = W := ⟨_, rfl⟩
  rw [hW] at hb2 k1 k2
  have HT := Lib.hid k1
  have HR2 := Lib.hid k2
  have HB := Lib.hid hb2
  clear h h1 h0 hb1 hb2 k1 k2
  have tr := HT.out.frz
  have tl := HT.out.lt
  have tc := HT.out.cell
  have rc := HR2.out.cell
  have rl := HR2.out.lt
  go_enter Tryz.func7, Tryz.ntmps7
  go_wp2_with fail
  have HF := Lib.hid (bk3 HT.out (x := .slice none 0 0) (y := .slice none 0 0) (z := .slice none 0 0))
  have HBF := Lib.hid (show Below w.heap.size w (((W.setCell ⟨w.heap.size, 0, none⟩ (.slice none 0 0)).setCell ⟨w.heap.size, 1, none⟩ (.slice none 0 0)).setCell ⟨w.heap.size, 2, none⟩ (.slice none 0 0)) from below3 HB.out (Nat.le_refl _))
  obtain ⟨U, hU⟩ : ∃ U, (((W.setCell ⟨w.heap.size, 0, none⟩ (.slice none 0 0)).setCell ⟨w.heap.size, 1, none⟩ (.slice none 0 0)).setCell ⟨w.heap.size, 2, none⟩ (.slice none 0 0)) = U := ⟨_, rfl⟩
  rw [hU] at HF HBF
  try rw [hU]
  have hf := HF.out.cell
  exact bodyPost_ret (v := .tuple #[.agg #[.slice none 0 0, .slice none 0 0, .slice none 0 0], .int .i64 0, .int .i64 0]) (by simp [results, Tryz.results7, go_sem, hf]) rfl (bp_bad HR.out HBF.out)
set_option maxRecDepth 100000 in
set_option maxHeartbeats 16000000 in
theorem r_BookParse_long (F : Rdr) (s : ByteArray) (w : World) (h0 : 0 < s.size) (h1 : s.size ≤ 60000) :
  Calls Tryz.prog 7 #[.string s] w (BpPost F s w) := by
 have h1' : ¬ (60000 : Int) < (s.size : Int) := by omega
 have hem : s.toList.isEmpty = false := by
  rw [ByteArray.toList_eq]
  cases e : s.data.toList with
  | nil => have e2 : s.size = s.data.toList.length := Lib.size_eq s; rw [e, List.length_nil] at e2; omega
  | cons a b => rfl
 have hb1 := (Below.refl w.heap.size w).alloc (Nat.le_refl _) (.cells #[.slice none 0 0, .slice none 0 0, .slice none 0 0] 26)
 have hb2 := hb1.alloc (by rw [size_alloc]; omega) (.cells #[.slice none 0 0, .slice none 0 0, .slice none 0 0] 26)
 have k1 := (Blk.new w #[.slice none 0 0, .slice none 0 0, .slice none 0 0] 26).alloc (.cells #[.slice none 0 0, .slice none 0 0, .slice none 0 0] 26)
 have k2 := Blk.new (w.alloc (.cells #[.slice none 0 0, .slice none 0 0, .slice none 0 0] 26)) #[.slice none 0 0, .slice none 0 0, .slice none 0 0] 26
 rw [size_alloc] at k2
 obtain ⟨W, hW⟩ : ∃ W, (w.alloc (.cells #[.slice none 0 0, .slice none 0 0, .slice none 0 0] 26)).alloc (.cells #[.slice none 0 0, .slice none 0 0, .slice none 0 0] 26) = W := ⟨_, rfl⟩
 rw [hW] at hb2 k1 k2
 have HT := Lib.hid k1
 have HR := Lib.hid k2
 have HB := Lib.hid hb2
 clear hb1 hb2 k1 k2
 go_enter Tryz.func7, Tryz.ntmps7
 go_wp2_with fail
 refine (split_one s 10 (by omega) _).mono ?_
 rintro e w1 ⟨L, hL, rfl, rfl⟩
 clear hW
 have HLs := Lib.hid (wordB_of hL)
 clear hL
 obtain ⟨rd, hrd⟩ : ∃ rd, w.heap.size + 1 = rd := ⟨_, rfl⟩
 have HRd := Lib.hid hrd
 have hV := (Below.refl W.heap.size W).alloc (Nat.le_refl _) (.cells (L.map Value.string).toArray 9)
 have HX := Lib.hid (Blk.new W (L.map Value.string).toArray 9)
 replace HT := Lib.hid (HT.out.step hV)
 replace HR := Lib.hid (HR.out.step hV)
 replace HB := Lib.hid (HB.out.trans (hV.mono HB.out.size))
 clear hV
 obtain ⟨W1, hW1⟩ : ∃ W1, W.alloc (.cells (L.map Value.string).toArray 9) = W1 := ⟨_, rfl⟩
 obtain ⟨Lb, hLb⟩ : ∃ Lb, W.heap.size = Lb := ⟨_, rfl⟩
 rw [hW1] at HX HT HR HB ⊢
 rw [hLb] at HX ⊢
 rw [hrd] at HR ⊢
 clear hW1 hLb
 have HW := Lib.hid (show BrW W1 W1 rd rd (.slice none 0 0) (.slice none 0 0) (.slice none 0 0) pb0.rs [] pb0.ls from ⟨Below.refl _ _, HR.out, PbM.nil _ _, fun _ _ h => h, Nat.le_of_lt HR.out.lt, Nat.le_refl _⟩)
 clear hrd
 have HLn := Lib.hid (show L.length ≤ 60001 by
  have h2 := lSplit_many 10 s.data.toList
  have e2 : s.size = s.data.toList.length := Lib.size_eq s
  rw [HLs.out]; unfold wordB; rw [List.length_map]; omega)
 go_wp2_with fail
 go_loopw [6, 31] (fun ov i wr => ∃ (k : Nat) (st : PbS) (RV ZV LV : Value) (zs : List ZoT), k ≤ L.length ∧ ov = .bool st.op ∧ i = .int .i64 k ∧ Hid (BpSt F L k st zs) ∧ Hid (BrW W1 wr rd rd RV ZV LV st.rs zs st.ls)) (fun _ i _ => L.length - (intOf i).toNat)
 case atStart => exact ⟨0, pb0, _, _, _, [], Nat.zero_le _, rfl, rfl, Lib.hid ⟨rfl, pbg_zero, rfl, Nat.le_refl _, Nat.le_refl _, Nat.le_refl _, fun z h => (by cases h)⟩, HW⟩
 case round =>
  clear HW HR
  obtain ⟨k, st, RV, ZV, LV, zs, hk, rfl, rfl, HSt, HW⟩ := hrel
  have HLt := Lib.hid (show w.heap.size < rd by have := HRd.out; omega)
  have hwk : IntKind.i64.wrap ((k : Int) + 1) = (k : Int) + 1 := IntWalk.i64_in _ (by have := HLn.out; omega)
  have HBn := Lib.hid (fun (V : World) (hb : Below rd W1 V) => (And.intro (HT.out.below hb HLt.out) (HB.out.trans (hb.mono (Nat.le_of_lt HLt.out)))))
  obtain ⟨op, hop⟩ : ∃ op, st.op = op := ⟨_, rfl⟩
  have HOp := Lib.hid hop
  rw [hop]
  clear hop
  by_cases hlt : k < L.length
  ·have c0 := wd_at (HW.out.S Lb _ HX.out) hlt
   have xl := (HW.out.S Lb _ HX.out).lt
   have hxs : (L.getD k eMT).size ≤ 60000 := by rw [HLs.out]; exact Nat.le_trans (wordB_getD k) h1
   have hsm := HSt.out.small (by have := HLn.out; omega)
   have HSm := Lib.hid hsm
   clear hsm
   have HNI := Lib.hid (fun (hl : LineIs F st (L.getD k eMT) none) => (show BkIs F s pb0 ((k : Int) + 1) 3 from Or.inr (Or.inr ⟨⟨h0, h1⟩, Or.inl ⟨k, st, by rw [← HLs.out]; exact hlt, by rw [← HLs.out]; exact HSt.out.ran, by rw [← HLs.out]; exact hl, rfl, rfl, rfl⟩⟩)))
   obtain ⟨x, hx⟩ : ∃ x, L.getD k eMT = x := ⟨_, rfl⟩
   rw [hx] at c0 HNI
   have HXx := Lib.hid hx
   have HXs := Lib.hid (show x.size ≤ 60000 by rw [← hx]; exact hxs)
   have hi1 : (0 : Int) ≤ (k : Int) := by omega
   have hi2 : (k : Int) < (L.length : Int) := by omega
   clear hx hxs
   go_wp2_with fail
   refine (split_one x 32 (by have := HXs.out; omega) _).mono ?_
   rintro e w1 ⟨ws, hws, rfl, rfl⟩
   clear c0 xl
   have HWS := Lib.hid (wordB_of hws)
   have hlw : ws.length ≤ 60001 := by
    have h1 := lSplit_many 32 x.data.toList
    have e1 := congrArg List.length hws
    rw [List.length_map] at e1
    have e2 : x.size = x.data.toList.length := Lib.size_eq x
    have := HXs.out
    omega
   have hl0 : 0 < ws.length := by
    rw [HWS.out]
    exact List.length_pos_iff.2 (wordB_ne 32 x)
   clear hws
   have hV := (Below.refl wr.heap.size wr).alloc (Nat.le_refl _) (.cells (ws.map Value.string).toArray 9)
   have HXw := Lib.hid (Blk.new wr (ws.map Value.string).toArray 9)
   replace HW := Lib.hid (HW.out.step hV)
   clear hV
   obtain ⟨V1, hV1⟩ : ∃ V, wr.alloc (.cells (ws.map Value.string).toArray 9) = V := ⟨_, rfl⟩
   obtain ⟨Wb, hWb⟩ : ∃ Wb, wr.heap.size = Wb := ⟨_, rfl⟩
   rw [hV1] at HXw HW ⊢
   rw [hWb] at HXw ⊢
   clear hV1 hWb
   have HSZ := Lib.hid (show ∀ b ∈ ws, b.size ≤ 60000 from fun b hb => by rw [HWS.out] at hb; exact Nat.le_trans (wordB_size b hb) HXs.out)
   obtain ⟨n, hn⟩ : ∃ n, ws.length = n := ⟨_, rfl⟩
   have HN := Lib.hid hn
   have HN2 := Lib.hid (show (wordB 32 x).length = n by rw [← HWS.out]; exact hn)
   obtain ⟨w0, hw0⟩ : ∃ w0, ws.getD 0 eMT = w0 := ⟨_, rfl⟩
   have HW0 := Lib.hid (show (wordB 32 x).getD 0 eMT = w0 by rw [← HWS.out]; exact hw0)
   have c0 := wd_at HXw.out hl0
   rw [hw0] at c0
   have xl := HXw.out.lt
   rw [hn] at hl0 hlw ⊢
   clear hn hw0
   have hj1 : (0 : Int) < (n : Int) := by omega
   have HGs := Lib.hid HSt.out.g
   have HZs := Lib.hid HSt.out.hz
   by_cases c1 : w0 = rULE
   ·have t1 : (w0.toList == [114, 117, 108, 101]) = true := by rw [c1, bw_list.1]; rfl
    have HC1 := Lib.hid (show (wordB 32 x).getD 0 eMT = rULE by rw [HW0.out, c1])
    clear c1
    have HP1 := Lib.hid (r_RuleParse x (by have := HXs.out; omega) V1)
    go_wp2_with fail
    refine HP1.out.mono ?_
    rintro e w7 ⟨r, er, rfl, ha, hb⟩
    have HA1 := Lib.hid (F.ru_eq ha)
    replace HW := Lib.hid (HW.out.step hb)
    have hV := (Below.refl w7.heap.size w7).alloc (Nat.le_refl _) (.cells (ruA r) 70)
    have HQ := Lib.hid (Blk.new w7 (ruA r) 70)
    replace HW := Lib.hid (HW.out.step hV)
    clear hb ha HP1 hV c0 xl
    obtain ⟨AZ, cZ, rfl⟩ := sl_form HW.out.M.hZ
    obtain ⟨AL, cL, rfl⟩ := sl_form HW.out.M.hL
    go_upto_region 16 with fail
    obtain ⟨V2, hV2⟩ : ∃ V, w7.alloc (.cells (ruA r) 70) = V := ⟨_, rfl⟩
    obtain ⟨X, hXe⟩ : ∃ X, w7.heap.size = X := ⟨_, rfl⟩
    rw [hV2] at HW HQ ⊢
    rw [hXe] at HQ ⊢
    clear hV2 hXe
    have rc := HW.out.R.cell
    have rl := HW.out.R.lt
    have hr1 := HSm.out.1
    obtain ⟨iR, hiR, he0, he1, he2⟩ := info_parts info_RuS
    go_cut [11] from 48 to 59 (fun v wx => ∃ ok : Bool, v = .bool ok ∧ Hid (OkIs ok (st.zs = [] ∧ st.ls = [] ∧ (F.ru x).2 = 0)) ∧ wx = V2)
    case first =>
     have HZl := Lib.hid (show zs.length = 0 ↔ st.zs = [] by rw [← HSt.out.hz]; simp)
     have HLl := Lib.hid (show st.ls.length = 0 ↔ st.ls = [] by simp)
     obtain ⟨nz, hnz⟩ : ∃ nz, zs.length = nz := ⟨_, rfl⟩
     obtain ⟨nl, hnl⟩ : ∃ nl, st.ls.length = nl := ⟨_, rfl⟩
     have hz1 := HSm.out.2.1
     have hz2 := HSm.out.2.2.1
     rw [hnz, hnl] at rc
     rw [hnz] at HZl hz1
     rw [hnl] at HLl hz2
     clear hnz hnl
     have hws : IntKind.i64.wrap ((nz : Int) + (nl : Int)) = (nz : Int) + (nl : Int) := IntWalk.i64_in _ (by omega)
     by_cases q1 : er = 0
     ·have HE1 := Lib.hid (show (F.ru x).2 = 0 by rw [HA1.out]; exact q1)
      subst q1
      by_cases q2 : nz = 0 ∧ nl = 0
      ·have q2' : ((nz : Int) + (nl : Int) == 0) = true := by rw [beq_iff_eq]; omega
       have HOk := Lib.hid (show (OkIs true (st.zs = [] ∧ st.ls = [] ∧ (F.ru x).2 = 0)) from ⟨fun _ => ⟨HZl.out.1 q2.1, HLl.out.1 q2.2, HE1.out⟩, fun _ => rfl⟩)
       clear q2
       go_wp2_with fail
       go_meet
       exact ⟨true, rfl, HOk, rfl⟩
      ·have q2' : ((nz : Int) + (nl : Int) == 0) = false := by rw [beq_eq_false_iff_ne]; omega
       have HOk := Lib.hid (show (OkIs false (st.zs = [] ∧ st.ls = [] ∧ (F.ru x).2 = 0)) from ⟨fun h => (by cases h), fun h => absurd ⟨HZl.out.2 h.1, HLl.out.2 h.2.1⟩ q2⟩)
       clear q2
       go_wp2_with fail
       go_meet
       exact ⟨false, rfl, HOk, rfl⟩
     ·have q1' : (er == 0) = false := by rw [beq_eq_false_iff_ne]; exact q1
      have HOk := Lib.hid (show (OkIs false (st.zs = [] ∧ st.ls = [] ∧ (F.ru x).2 = 0)) from ⟨fun h => (by cases h), fun h => absurd (by have h9 := h.2.2; rw [HA1.out] at h9; exact h9) q1⟩)
      clear q1
      go_wp2_with fail
      go_meet
      exact ⟨false, rfl, HOk, rfl⟩
    case rest =>
     obtain ⟨ok, hv, HOk, hwc⟩ := hcut
     subst hv
     have hwc2 := hwc.symm
     clear hwc
     subst hwc2
     have qc := HQ.out.cell
     have ql := HQ.out.lt
     have hzv := HW.out.h1
     have HM1 := Lib.hid (HW.out.M.step ((Below.refl _ _).alloc (Nat.le_refl _) (.cells (ruA r) 70)))
     go_upto_region 43 with (at_builtin; refine wpList_append_lies _ rfl _ _ _ rfl rd 70 iR _ 11 104 Tryz.underlying22 hiR he0 he1 he2 rfl (by omega) RV st.rs.length _ rfl HM1.out.hR ⟨V2.heap.size, 0, none⟩ 1 1 (ruC r) rfl rfl (World.news_of_block (cs := (ruC r).toArray) (t := 70) (fr := (0, 0)) (heap_alloc_new V2 _)) (by simp [Value.oneCell', ruC]) (by omega) (by unfold maxLen; omega) (by omega) (by simp; omega) (V2.heap.size + 1) (by simp) ?_; intro gg cap2 w6 hown1 hgrow hat hlt6; obtain ⟨⟨zc, zf, zl⟩, hb6, hx6, hFin⟩ := RR_fin (r := r) HW.out hown1 hgrow)
     obtain ⟨V7, hV7⟩ : ∃ V, w6.setCell ⟨rd, 0, none⟩ (.slice (some ⟨gg, 0, none⟩) (st.rs.length + 1) cap2) = V := ⟨_, rfl⟩
     rw [hV7] at hFin ⊢
     have HFin := Lib.hid hFin
     clear hV7 zc zf zl hb6 hx6 hown1 hgrow hat hlt6 hFin qc ql rc rl HM1
     cases ok with
     | true =>
      have hc := HOk.out.1 rfl
      have HC2 := Lib.hid hc
      clear hc
      have HSn9 := Lib.hid (HSt.out.next (st' := ⟨st.rs ++ [(F.ru x).1], st.zs, st.ls, st.op⟩) (zs' := zs) HXx.out HXs.out (Or.inl ⟨HC1.out, HC2.out, rfl⟩) (HSt.out.hz))
      have HWn9 := Lib.hid (show BrW W1 V7 rd rd (.slice (some ⟨gg, 0, none⟩) (st.rs.length + 1) cap2) (.slice AZ zs.length cZ) (.slice AL st.ls.length cL) (⟨st.rs ++ [(F.ru x).1], st.zs, st.ls, st.op⟩ : PbS).rs zs (⟨st.rs ++ [(F.ru x).1], st.zs, st.ls, st.op⟩ : PbS).ls from by rw [HA1.out]; exact HFin.out)
      clear HNI HBn HSt HW HXx HXs
      go_wp2_with fail
      exact ⟨⟨k + 1, ⟨st.rs ++ [(F.ru x).1], st.zs, st.ls, st.op⟩, (.slice (some ⟨gg, 0, none⟩) (st.rs.length + 1) cap2), (.slice AZ zs.length cZ), (.slice AL st.ls.length cL), zs, by omega, by rw [HOp.out], by go_num, HSn9, HWn9⟩, by simp only [intOf]; omega⟩
     | false =>
      have HNr := Lib.hid (ln_rule (F := F) (st := st) HC1.out (fun h => (by have := HOk.out.2 h; cases this)))
      have HNo := Lib.hid (HNI.out HNr.out)
      have HLo := Lib.hid (HFin.out.L)
      have HT5 := Lib.hid (HBn.out _ HLo.out).1
      have HB5 := Lib.hid (HBn.out _ HLo.out).2
      clear HNI HBn HSt HW HXx HXs
      have tr := HT5.out.frz
      have tl := HT5.out.lt
      have tc := HT5.out.cell
      go_wp2_with fail
      have HF := Lib.hid (bk3 HT5.out (x := .slice none 0 0) (y := .slice none 0 0) (z := .slice none 0 0))
      have HBF := Lib.hid (show Below w.heap.size w (((V7.setCell ⟨w.heap.size, 0, none⟩ (.slice none 0 0)).setCell ⟨w.heap.size, 1, none⟩ (.slice none 0 0)).setCell ⟨w.heap.size, 2, none⟩ (.slice none 0 0)) from below3 HB5.out (Nat.le_refl _))
      obtain ⟨U, hU⟩ : ∃ U, (((V7.setCell ⟨w.heap.size, 0, none⟩ (.slice none 0 0)).setCell ⟨w.heap.size, 1, none⟩ (.slice none 0 0)).setCell ⟨w.heap.size, 2, none⟩ (.slice none 0 0)) = U := ⟨_, rfl⟩
      rw [hU] at HF HBF
      try rw [hU]
      have hf := HF.out.cell
      exact bodyPost_ret (v := .tuple #[.agg #[.slice none 0 0, .slice none 0 0, .slice none 0 0], .int .i64 ((k : Int) + 1), .int .i64 3]) (by simp [results, Tryz.results7, go_sem, hf]) rfl (bp_bad HNo.out HBF.out)
   by_cases c2 : w0 = zONE
   ·have t1 : (w0.toList == [114, 117, 108, 101]) = false := by rw [← bw_list.1]; exact str_ne c1
    have t2 : (w0.toList == [122, 111, 110, 101]) = true := by rw [c2, bw_list.2.1]; rfl
    have HC1 := Lib.hid (show (wordB 32 x).getD 0 eMT = zONE by rw [HW0.out, c2])
    clear c1 c2
    obtain ⟨AL, cL, rfl⟩ := sl_form HW.out.M.hL
    have rc := HW.out.R.cell
    have rl := HW.out.R.lt
    go_upto_region 19 with fail
    clear c0 xl
    go_cut [11] from 68 to 80 (fun v wx => ∃ ok : Bool, v = .bool ok ∧ Hid (OkIs ok (st.op = false ∧ st.ls = [] ∧ (wordB 32 x).length = 2)) ∧ wx = V1)
    case first =>
     have HLl := Lib.hid (show st.ls.length = 0 ↔ st.ls = [] by simp)
     obtain ⟨nl, hnl⟩ : ∃ nl, st.ls.length = nl := ⟨_, rfl⟩
     rw [hnl] at rc HLl
     clear hnl
     by_cases q1 : n = 2
     ·have q1' : ((n : Int) == 2) = true := by rw [beq_iff_eq]; omega
      cases op with
      | true =>
       have HOk := Lib.hid (show (OkIs false (st.op = false ∧ st.ls = [] ∧ (wordB 32 x).length = 2)) from ⟨fun h => (by cases h), fun h => (by have h9 := h.1; rw [HOp.out] at h9; cases h9)⟩)
       clear q1
       go_wp2_with fail
       go_meet
       exact ⟨false, rfl, HOk, rfl⟩
      | false =>
       by_cases q2 : nl = 0
       ·have q2' : ((nl : Int) == 0) = true := by rw [beq_iff_eq]; omega
        have HOk := Lib.hid (show (OkIs true (st.op = false ∧ st.ls = [] ∧ (wordB 32 x).length = 2)) from ⟨fun _ => ⟨HOp.out, HLl.out.1 q2, by rw [HN2.out]; exact q1⟩, fun _ => rfl⟩)
        clear q1 q2
        go_wp2_with fail
        go_meet
        exact ⟨true, rfl, HOk, rfl⟩
       ·have q2' : ((nl : Int) == 0) = false := by rw [beq_eq_false_iff_ne]; omega
        have HOk := Lib.hid (show (OkIs false (st.op = false ∧ st.ls = [] ∧ (wordB 32 x).length = 2)) from ⟨fun h => (by cases h), fun h => absurd (HLl.out.2 h.2.1) q2⟩)
        clear q1 q2
        go_wp2_with fail
        go_meet
        exact ⟨false, rfl, HOk, rfl⟩
     ·have q1' : ((n : Int) == 2) = false := by rw [beq_eq_false_iff_ne]; omega
      have HOk := Lib.hid (show (OkIs false (st.op = false ∧ st.ls = [] ∧ (wordB 32 x).length = 2)) from ⟨fun h => (by cases h), fun h => absurd (HN2.out.symm.trans h.2.2) q1⟩)
      clear q1
      go_wp2_with fail
      go_meet
      exact ⟨false, rfl, HOk, rfl⟩
    case rest =>
     obtain ⟨ok, hv, HOk, hwc⟩ := hcut
     subst hv
     have hwc2 := hwc.symm
     clear hwc
     subst hwc2
     cases ok with
     | false =>
      have HNz := Lib.hid (ln_zone (F := F) (st := st) HC1.out (fun h => (by have := HOk.out.2 h; cases this)))
      have HNo := Lib.hid (HNI.out HNz.out)
      have HLo := Lib.hid (HW.out.L)
      have HT5 := Lib.hid (HBn.out _ HLo.out).1
      have HB5 := Lib.hid (HBn.out _ HLo.out).2
      clear HNI HBn HSt HW HXx HXs
      have tr := HT5.out.frz
      have tl := HT5.out.lt
      have tc := HT5.out.cell
      go_wp2_with fail
      have HF := Lib.hid (bk3 HT5.out (x := .slice none 0 0) (y := .slice none 0 0) (z := .slice none 0 0))
      have HBF := Lib.hid (show Below w.heap.size w (((V1.setCell ⟨w.heap.size, 0, none⟩ (.slice none 0 0)).setCell ⟨w.heap.size, 1, none⟩ (.slice none 0 0)).setCell ⟨w.heap.size, 2, none⟩ (.slice none 0 0)) from below3 HB5.out (Nat.le_refl _))
      obtain ⟨U, hU⟩ : ∃ U, (((V1.setCell ⟨w.heap.size, 0, none⟩ (.slice none 0 0)).setCell ⟨w.heap.size, 1, none⟩ (.slice none 0 0)).setCell ⟨w.heap.size, 2, none⟩ (.slice none 0 0)) = U := ⟨_, rfl⟩
      rw [hU] at HF HBF
      try rw [hU]
      have hf := HF.out.cell
      exact bodyPost_ret (v := .tuple #[.agg #[.slice none 0 0, .slice none 0 0, .slice none 0 0], .int .i64 ((k : Int) + 1), .int .i64 3]) (by simp [results, Tryz.results7, go_sem, hf]) rfl (bp_bad HNo.out HBF.out)
     | true =>
      have hc := HOk.out.1 rfl
      have HC2 := Lib.hid hc
      have hn9 : n = 2 := by rw [← HN2.out]; exact hc.2.2
      clear hc
      have hn1 : (1 : Int) < (n : Int) := by omega
      obtain ⟨s1, hs1⟩ : ∃ x, ws.getD 1 eMT = x := ⟨_, rfl⟩
      have HD1 := Lib.hid (fun (V : World) (h : Blk V Wb 9 (ws.map Value.string).toArray) => (by have q := wd_at h (i := 1) (by rw [HN.out]; omega); rw [hs1] at q; exact q : V.cell? ⟨Wb, 1, none⟩ = some (.string s1)))
      have HS1 := Lib.hid (show (wordB 32 x).getD 1 eMT = s1 by rw [← HWS.out]; exact hs1)
      clear hs1
      obtain ⟨iR, hiR, he0, he1, he2⟩ := info_parts info_ZoS
      have HNX := Lib.hid (HXw.out.ne HW.out.R (by decide))
      have hzl := HSm.out
      clear hn9 rc rl
      go_upto_region 21 with fail
      refine wp_region_noPanic ?_
      refine wp_region_held_drew (S := fun W' : World => Below rd W1 W' ∧ Blk W' Wb 9 (ws.map Value.string).toArray) (by kernel_rfl) ⟨HW.out.L.drew, HXw.out.drew⟩ (fun hHeld0 => ?_)
      have hHeld := hHeld0
      clear hHeld0
      have HW9 := Lib.hid (HW.out.step (Below.refl _ _).drew)
      obtain ⟨v0, hv0⟩ : ∃ x, V1.drew = x := ⟨_, rfl⟩
      rw [hv0] at hHeld HW9 ⊢
      clear hv0
      refine wpAnyH_take (i := 0) (v := ?_) rfl (by kernel_rfl) (by kernel_rfl) (by kernel_rfl) (fun _ _ _ h => h) (Or.inl ⟨by rfl, ?_⟩) hHeld ?_
      rotate_left
      ·intro wq hSw
       go_simp
       try with_reducible rfl
      try simp only [Act.put, List.getElem_toArray, List.getElem_cons_succ, List.getElem_cons_zero, List.setIfInBounds_toArray, List.set_cons_zero, List.set_cons_succ]
      refine wpAnyH_take (i := 2) (v := ?_) rfl (by kernel_rfl) (by kernel_rfl) (by kernel_rfl) (fun _ _ _ h => h) (Or.inl ⟨by rfl, ?_⟩) hHeld ?_
      rotate_left
      ·intro wq hSw
       go_simp
       try with_reducible rfl
      try simp only [Act.put, List.getElem_toArray, List.getElem_cons_succ, List.getElem_cons_zero, List.setIfInBounds_toArray, List.set_cons_zero, List.set_cons_succ]
      refine wpAnyH_take (i := 3) (v := ?_) rfl (by kernel_rfl) (by kernel_rfl) (by kernel_rfl) (fun _ _ _ h => h) (Or.inl ⟨by rfl, ?_⟩) hHeld ?_
      rotate_left
      ·intro wq hSw
       go_simp
       try with_reducible rfl
      try simp only [Act.put, List.getElem_toArray, List.getElem_cons_succ, List.getElem_cons_zero, List.setIfInBounds_toArray, List.set_cons_zero, List.set_cons_succ]
      refine wpAnyH_take (i := 4) (v := ?_) rfl (by kernel_rfl) (by kernel_rfl) (by kernel_rfl) (fun _ _ _ h => h) (Or.inl ⟨by rfl, ?_⟩) hHeld ?_
      rotate_left
      ·intro wq hSw
       have xc := HD1.out _ hSw.2
       have xl := hSw.2.lt
       go_simp
       try with_reducible rfl
      try simp only [Act.put, List.getElem_toArray, List.getElem_cons_succ, List.getElem_cons_zero, List.setIfInBounds_toArray, List.set_cons_zero, List.set_cons_succ]
      refine wpAnyH_take (i := 5) (v := ?_) rfl (by kernel_rfl) (by kernel_rfl) (by kernel_rfl) (fun _ _ _ h => h) (Or.inl ⟨by rfl, ?_⟩) hHeld ?_
      rotate_left
      ·intro wq hSw
       go_simp
       try with_reducible rfl
      try simp only [Act.put, List.getElem_toArray, List.getElem_cons_succ, List.getElem_cons_zero, List.setIfInBounds_toArray, List.set_cons_zero, List.set_cons_succ]
      refine wpAnyH_ready (rs := [1, 6]) (by kernel_rfl) (by simp) ?_
      refine AllReadyH.cons rfl (fun K hK => ?_) (AllReadyH.cons rfl (fun K hK => ?_) AllReadyH.nil)
      ·skip
       have zc := (HW9.out.R).cell
       have zl := (HW9.out.R).lt
       go_simp
       refine hK.out _ _ hHeld (fun hHeld2 => ?_)
       clear hK K hHeld2 zc zl
       try simp only [Act.put, List.getElem_toArray, List.getElem_cons_succ, List.getElem_cons_zero, List.setIfInBounds_toArray, List.set_cons_zero, List.set_cons_succ]
       refine wpAnyH_ready (rs := [6]) (by kernel_rfl) (by simp) ?_
       refine AllReadyH.cons rfl (fun K hK => ?_) AllReadyH.nil
       have hS8 := And.intro (hHeld.1.alloc HW9.out.h1 (.cells #[.string s1, .slice none 0 0] 75)) (hHeld.2.alloc (.cells #[.string s1, .slice none 0 0] 75))
       go_simp
       refine hK.out _ _ hS8 (fun hHeld2 => ?_)
       clear hK K hHeld hHeld2
       have hHeld := hS8
       clear hS8
       try simp only [Act.put, List.getElem_toArray, List.getElem_cons_succ, List.getElem_cons_zero, List.setIfInBounds_toArray, List.set_cons_zero, List.set_cons_succ]
       refine wpAnyH_ready (rs := [7]) (by kernel_rfl) (by simp) ?_
       refine AllReadyH.cons rfl (fun K hK => ?_) AllReadyH.nil
       have hM1 := HW9.out.M.step ((Below.refl _ _).alloc (Nat.le_refl _) (.cells #[.string s1, .slice none 0 0] 75))
       have hzv := HW9.out.h1
       refine step_append_lies _ (by rfl) _ _ _ (by rfl) rd 75 iR _ 2 40 Tryz.underlying23 hiR he0 he1 he2 rfl (by omega) ZV zs.length _ (by rfl) hM1.hZ ⟨v0.heap.size, 0, none⟩ 1 1 [.string s1, .slice none 0 0] (by rfl) (by rfl) (World.news_of_block (cs := #[.string s1, .slice none 0 0]) (t := 75) (fr := (0, 0)) (heap_alloc_new v0 _)) (by simp [Value.oneCell']) (by omega) (by unfold maxLen; omega) (by omega) (by simp; omega) (v0.heap.size + 1) (by simp) ?_; intro gg cap2 w6 hown1 hgrow hat hlt6
       obtain ⟨⟨zc, zf, zl⟩, hb6, hx6, hFin⟩ := RZ_fin (nm := s1) HW9.out hown1 hgrow
       have hX6 := (hHeld.2).grown hgrow ((hHeld.2).own_ne hM1.hZ (by decide))
       refine hK.out _ _ ⟨hb6, hX6⟩ (fun hHeld2 => ?_)
       clear hK K hHeld hHeld2
       try simp only [Act.put, List.getElem_toArray, List.getElem_cons_succ, List.getElem_cons_zero, List.setIfInBounds_toArray, List.set_cons_zero, List.set_cons_succ]
       have hHeld := And.intro hb6 hX6
       refine wpAnyH_take (i := 8) (v := ?_) rfl (by kernel_rfl) (by kernel_rfl) (by kernel_rfl) (fun _ _ _ h => h) (Or.inl ⟨by rfl, ?_⟩) hHeld ?_
       rotate_left
       ·intro wq hSw
        go_simp
        try with_reducible rfl
       try simp only [Act.put, List.getElem_toArray, List.getElem_cons_succ, List.getElem_cons_zero, List.setIfInBounds_toArray, List.set_cons_zero, List.set_cons_succ]
       refine wpAnyH_ready (rs := [9]) (by kernel_rfl) (by simp) ?_
       refine AllReadyH.cons rfl (fun K hK => ?_) AllReadyH.nil
       have hS8 := And.intro (hFin.L) (hX6.far (a := ⟨rd, 1, none⟩) (HNX.out) (.slice (some ⟨gg, 0, none⟩) (zs.length + 1) cap2))
       go_simp
       refine hK.out _ _ hS8 (fun hHeld2 => ?_)
       clear hK K hHeld hHeld2 hS8
       try simp only [Act.put, List.getElem_toArray, List.getElem_cons_succ, List.getElem_cons_zero, List.setIfInBounds_toArray, List.set_cons_zero, List.set_cons_succ]
       refine wpAnyH_done (by kernel_rfl) ?_ _
       refine NoPanic.normal ?_
       have HFin := Lib.hid hFin
       clear hFin zc zf zl hb6 hx6 hX6 hown1 hgrow hat hlt6 hM1 HW9
       obtain ⟨V7, hV7⟩ : ∃ V, w6.setCell ⟨rd, 1, none⟩ (.slice (some ⟨gg, 0, none⟩) (zs.length + 1) cap2) = V := ⟨_, rfl⟩
       rw [hV7] at HFin ⊢
       clear hV7
       have HSn9 := Lib.hid (HSt.out.next (st' := ⟨st.rs, st.zs ++ [((wordB 32 x).getD 1 eMT, [])], st.ls, true⟩) (zs' := (zs ++ [⟨s1, none, 0, []⟩])) HXx.out HXs.out (Or.inr (Or.inl ⟨HC1.out, HC2.out, rfl⟩)) (by rw [HS1.out, List.map_append, HSt.out.hz]; rfl))
       have HWn9 := Lib.hid (show BrW W1 V7 rd rd RV (.slice (some ⟨gg, 0, none⟩) (zs.length + 1) cap2) (.slice AL st.ls.length cL) (⟨st.rs, st.zs ++ [((wordB 32 x).getD 1 eMT, [])], st.ls, true⟩ : PbS).rs (zs ++ [⟨s1, none, 0, []⟩]) (⟨st.rs, st.zs ++ [((wordB 32 x).getD 1 eMT, [])], st.ls, true⟩ : PbS).ls from HFin.out)
       clear HNI HBn HSt HW HXx HXs
       go_wp2_with fail
       exact ⟨⟨k + 1, ⟨st.rs, st.zs ++ [((wordB 32 x).getD 1 eMT, [])], st.ls, true⟩, RV, (.slice (some ⟨gg, 0, none⟩) (zs.length + 1) cap2), (.slice AL st.ls.length cL), (zs ++ [⟨s1, none, 0, []⟩]), by omega, rfl, by go_num, HSn9, HWn9⟩, by simp only [intOf]; omega⟩
      have hS8 := And.intro (hHeld.1.alloc HW9.out.h1 (.cells #[.string s1, .slice none 0 0] 75)) (hHeld.2.alloc (.cells #[.string s1, .slice none 0 0] 75))
      go_simp
      refine hK.out _ _ hS8 (fun hHeld2 => ?_)
      clear hK K hHeld hHeld2
      have hHeld := hS8
      clear hS8
      try simp only [Act.put, List.getElem_toArray, List.getElem_cons_succ, List.getElem_cons_zero, List.setIfInBounds_toArray, List.set_cons_zero, List.set_cons_succ]
      refine wpAnyH_ready (rs := [1]) (by kernel_rfl) (by simp) ?_
      refine AllReadyH.cons rfl (fun K hK => ?_) AllReadyH.nil
      have zc := (HW9.out.R.alloc (.cells #[.string s1, .slice none 0 0] 75)).cell
      have zl := (HW9.out.R.alloc (.cells #[.string s1, .slice none 0 0] 75)).lt
      go_simp
      refine hK.out _ _ hHeld (fun hHeld2 => ?_)
      clear hK K hHeld2 zc zl
      try simp only [Act.put, List.getElem_toArray, List.getElem_cons_succ, List.getElem_cons_zero, List.setIfInBounds_toArray, List.set_cons_zero, List.set_cons_succ]
      refine wpAnyH_ready (rs := [7]) (by kernel_rfl) (by simp) ?_
      refine AllReadyH.cons rfl (fun K hK => ?_) AllReadyH.nil
      have hM1 := HW9.out.M.step ((Below.refl _ _).alloc (Nat.le_refl _) (.cells #[.string s1, .slice none 0 0] 75))
      have hzv := HW9.out.h1
      refine step_append_lies _ (by rfl) _ _ _ (by rfl) rd 75 iR _ 2 40 Tryz.underlying23 hiR he0 he1 he2 rfl (by omega) ZV zs.length _ (by rfl) hM1.hZ ⟨v0.heap.size, 0, none⟩ 1 1 [.string s1, .slice none 0 0] (by rfl) (by rfl) (World.news_of_block (cs := #[.string s1, .slice none 0 0]) (t := 75) (fr := (0, 0)) (heap_alloc_new v0 _)) (by simp [Value.oneCell']) (by omega) (by unfold maxLen; omega) (by omega) (by simp; omega) (v0.heap.size + 1) (by simp) ?_; intro gg cap2 w6 hown1 hgrow hat hlt6
      obtain ⟨⟨zc, zf, zl⟩, hb6, hx6, hFin⟩ := RZ_fin (nm := s1) HW9.out hown1 hgrow
      have hX6 := (hHeld.2).grown hgrow ((hHeld.2).own_ne hM1.hZ (by decide))
      refine hK.out _ _ ⟨hb6, hX6⟩ (fun hHeld2 => ?_)
      clear hK K hHeld hHeld2
      try simp only [Act.put, List.getElem_toArray, List.getElem_cons_succ, List.getElem_cons_zero, List.setIfInBounds_toArray, List.set_cons_zero, List.set_cons_succ]
      have hHeld := And.intro hb6 hX6
      refine wpAnyH_take (i := 8) (v := ?_) rfl (by kernel_rfl) (by kernel_rfl) (by kernel_rfl) (fun _ _ _ h => h) (Or.inl ⟨by rfl, ?_⟩) hHeld ?_
      rotate_left
      ·intro wq hSw
       go_simp
       try with_reducible rfl
      try simp only [Act.put, List.getElem_toArray, List.getElem_cons_succ, List.getElem_cons_zero, List.setIfInBounds_toArray, List.set_cons_zero, List.set_cons_succ]
      refine wpAnyH_ready (rs := [9]) (by kernel_rfl) (by simp) ?_
      refine AllReadyH.cons rfl (fun K hK => ?_) AllReadyH.nil
      have hS8 := And.intro (hFin.L) (hX6.far (a := ⟨rd, 1, none⟩) (HNX.out) (.slice (some ⟨gg, 0, none⟩) (zs.length + 1) cap2))
      go_simp
      refine hK.out _ _ hS8 (fun hHeld2 => ?_)
      clear hK K hHeld hHeld2 hS8
      try simp only [Act.put, List.getElem_toArray, List.getElem_cons_succ, List.getElem_cons_zero, List.setIfInBounds_toArray, List.set_cons_zero, List.set_cons_succ]
      refine wpAnyH_done (by kernel_rfl) ?_ _
      refine NoPanic.normal ?_
      have HFin := Lib.hid hFin
      clear hFin zc zf zl hb6 hx6 hX6 hown1 hgrow hat hlt6 hM1 HW9
      obtain ⟨V7, hV7⟩ : ∃ V, w6.setCell ⟨rd, 1, none⟩ (.slice (some ⟨gg, 0, none⟩) (zs.length + 1) cap2) = V := ⟨_, rfl⟩
      rw [hV7] at HFin ⊢
      clear hV7
      have HSn9 := Lib.hid (HSt.out.next (st' := ⟨st.rs, st.zs ++ [((wordB 32 x).getD 1 eMT, [])], st.ls, true⟩) (zs' := (zs ++ [⟨s1, none, 0, []⟩])) HXx.out HXs.out (Or.inr (Or.inl ⟨HC1.out, HC2.out, rfl⟩)) (by rw [HS1.out, List.map_append, HSt.out.hz]; rfl))
      have HWn9 := Lib.hid (show BrW W1 V7 rd rd RV (.slice (some ⟨gg, 0, none⟩) (zs.length + 1) cap2) (.slice AL st.ls.length cL) (⟨st.rs, st.zs ++ [((wordB 32 x).getD 1 eMT, [])], st.ls, true⟩ : PbS).rs (zs ++ [⟨s1, none, 0, []⟩]) (⟨st.rs, st.zs ++ [((wordB 32 x).getD 1 eMT, [])], st.ls, true⟩ : PbS).ls from HFin.out)
      clear HNI HBn HSt HW HXx HXs
      go_wp2_with fail
      exact ⟨⟨k + 1, ⟨st.rs, st.zs ++ [((wordB 32 x).getD 1 eMT, [])], st.ls, true⟩, RV, (.slice (some ⟨gg, 0, none⟩) (zs.length + 1) cap2), (.slice AL st.ls.length cL), (zs ++ [⟨s1, none, 0, []⟩]), by omega, rfl, by go_num, HSn9, HWn9⟩, by simp only [intOf]; omega⟩
   by_cases c3 : w0 = lINK
   ·have t1 : (w0.toList == [114, 117, 108, 101]) = false := by rw [← bw_list.1]; exact str_ne c1
    have t2 : (w0.toList == [122, 111, 110, 101]) = false := by rw [← bw_list.2.1]; exact str_ne c2
    have t3 : (w0.toList == [108, 105, 110, 107]) = true := by rw [c3, bw_list.2.2.2]; rfl
    have HC1 := Lib.hid (show (wordB 32 x).getD 0 eMT = lINK by rw [HW0.out, c3])
    clear c1 c2 c3
    go_upto_region 24 with fail
    clear c0 xl
    go_cut [11] from 93 to 99 (fun v wx => ∃ ok : Bool, v = .bool ok ∧ Hid (OkIs ok (st.op = false ∧ (wordB 32 x).length = 3)) ∧ wx = V1)
    case first =>
     by_cases q1 : n = 3
     ·have q1' : ((n : Int) == 3) = true := by rw [beq_iff_eq]; omega
      cases op with
      | true =>
       have HOk := Lib.hid (show (OkIs false (st.op = false ∧ (wordB 32 x).length = 3)) from ⟨fun h => (by cases h), fun h => (by have h9 := h.1; rw [HOp.out] at h9; cases h9)⟩)
       clear q1
       go_wp2_with fail
       go_meet
       exact ⟨false, rfl, HOk, rfl⟩
      | false =>
       have HOk := Lib.hid (show (OkIs true (st.op = false ∧ (wordB 32 x).length = 3)) from ⟨fun _ => ⟨HOp.out, by rw [HN2.out]; exact q1⟩, fun _ => rfl⟩)
       clear q1
       go_wp2_with fail
       go_meet
       exact ⟨true, rfl, HOk, rfl⟩
     ·have q1' : ((n : Int) == 3) = false := by rw [beq_eq_false_iff_ne]; omega
      have HOk := Lib.hid (show (OkIs false (st.op = false ∧ (wordB 32 x).length = 3)) from ⟨fun h => (by cases h), fun h => absurd (HN2.out.symm.trans h.2) q1⟩)
      clear q1
      go_wp2_with fail
      go_meet
      exact ⟨false, rfl, HOk, rfl⟩
    case rest =>
     obtain ⟨ok, hv, HOk, hwc⟩ := hcut
     subst hv
     have hwc2 := hwc.symm
     clear hwc
     subst hwc2
     cases ok with
     | false =>
      have HNz := Lib.hid (ln_link (F := F) (st := st) HC1.out (fun h => (by have := HOk.out.2 h; cases this)))
      have HNo := Lib.hid (HNI.out HNz.out)
      have HLo := Lib.hid (HW.out.L)
      have HT5 := Lib.hid (HBn.out _ HLo.out).1
      have HB5 := Lib.hid (HBn.out _ HLo.out).2
      clear HNI HBn HSt HW HXx HXs
      have tr := HT5.out.frz
      have tl := HT5.out.lt
      have tc := HT5.out.cell
      go_wp2_with fail
      have HF := Lib.hid (bk3 HT5.out (x := .slice none 0 0) (y := .slice none 0 0) (z := .slice none 0 0))
      have HBF := Lib.hid (show Below w.heap.size w (((V1.setCell ⟨w.heap.size, 0, none⟩ (.slice none 0 0)).setCell ⟨w.heap.size, 1, none⟩ (.slice none 0 0)).setCell ⟨w.heap.size, 2, none⟩ (.slice none 0 0)) from below3 HB5.out (Nat.le_refl _))
      obtain ⟨U, hU⟩ : ∃ U, (((V1.setCell ⟨w.heap.size, 0, none⟩ (.slice none 0 0)).setCell ⟨w.heap.size, 1, none⟩ (.slice none 0 0)).setCell ⟨w.heap.size, 2, none⟩ (.slice none 0 0)) = U := ⟨_, rfl⟩
      rw [hU] at HF HBF
      try rw [hU]
      have hf := HF.out.cell
      exact bodyPost_ret (v := .tuple #[.agg #[.slice none 0 0, .slice none 0 0, .slice none 0 0], .int .i64 ((k : Int) + 1), .int .i64 3]) (by simp [results, Tryz.results7, go_sem, hf]) rfl (bp_bad HNo.out HBF.out)
     | true =>
      have hc := HOk.out.1 rfl
      have HC2 := Lib.hid hc
      have hn9 : n = 3 := by rw [← HN2.out]; exact hc.2
      clear hc
      have hn1 : (1 : Int) < (n : Int) := by omega
      have hn2 : (2 : Int) < (n : Int) := by omega
      obtain ⟨s1, hs1⟩ : ∃ x, ws.getD 1 eMT = x := ⟨_, rfl⟩
      have HD1 := Lib.hid (fun (V : World) (h : Blk V Wb 9 (ws.map Value.string).toArray) => (by have q := wd_at h (i := 1) (by rw [HN.out]; omega); rw [hs1] at q; exact q : V.cell? ⟨Wb, 1, none⟩ = some (.string s1)))
      have HS1 := Lib.hid (show (wordB 32 x).getD 1 eMT = s1 by rw [← HWS.out]; exact hs1)
      clear hs1
      obtain ⟨s2, hs2⟩ : ∃ x, ws.getD 2 eMT = x := ⟨_, rfl⟩
      have HD2 := Lib.hid (fun (V : World) (h : Blk V Wb 9 (ws.map Value.string).toArray) => (by have q := wd_at h (i := 2) (by rw [HN.out]; omega); rw [hs2] at q; exact q : V.cell? ⟨Wb, 2, none⟩ = some (.string s2)))
      have HS2 := Lib.hid (show (wordB 32 x).getD 2 eMT = s2 by rw [← HWS.out]; exact hs2)
      clear hs2
      obtain ⟨iR, hiR, he0, he1, he2⟩ := info_parts info_LkS
      have HNX := Lib.hid (HXw.out.ne HW.out.R (by decide))
      have hzl := HSm.out
      clear hn9
      go_upto_region 26 with fail
      refine wp_region_noPanic ?_
      refine wp_region_held_drew (S := fun W' : World => Below rd W1 W' ∧ Blk W' Wb 9 (ws.map Value.string).toArray) (by kernel_rfl) ⟨HW.out.L.drew, HXw.out.drew⟩ (fun hHeld0 => ?_)
      have hHeld := hHeld0
      clear hHeld0
      have HW9 := Lib.hid (HW.out.step (Below.refl _ _).drew)
      obtain ⟨v0, hv0⟩ : ∃ x, V1.drew = x := ⟨_, rfl⟩
      rw [hv0] at hHeld HW9 ⊢
      clear hv0
      refine wpAnyH_take (i := 0) (v := ?_) rfl (by kernel_rfl) (by kernel_rfl) (by kernel_rfl) (fun _ _ _ h => h) (Or.inl ⟨by rfl, ?_⟩) hHeld ?_
      rotate_left
      ·intro wq hSw
       go_simp
       try with_reducible rfl
      try simp only [Act.put, List.getElem_toArray, List.getElem_cons_succ, List.getElem_cons_zero, List.setIfInBounds_toArray, List.set_cons_zero, List.set_cons_succ]
      refine wpAnyH_take (i := 2) (v := ?_) rfl (by kernel_rfl) (by kernel_rfl) (by kernel_rfl) (fun _ _ _ h => h) (Or.inl ⟨by rfl, ?_⟩) hHeld ?_
      rotate_left
      ·intro wq hSw
       go_simp
       try with_reducible rfl
      try simp only [Act.put, List.getElem_toArray, List.getElem_cons_succ, List.getElem_cons_zero, List.setIfInBounds_toArray, List.set_cons_zero, List.set_cons_succ]
      refine wpAnyH_take (i := 3) (v := ?_) rfl (by kernel_rfl) (by kernel_rfl) (by kernel_rfl) (fun _ _ _ h => h) (Or.inl ⟨by rfl, ?_⟩) hHeld ?_
      rotate_left
      ·intro wq hSw
       go_simp
       try with_reducible rfl
      try simp only [Act.put, List.getElem_toArray, List.getElem_cons_succ, List.getElem_cons_zero, List.setIfInBounds_toArray, List.set_cons_zero, List.set_cons_succ]
      refine wpAnyH_take (i := 4) (v := ?_) rfl (by kernel_rfl) (by kernel_rfl) (by kernel_rfl) (fun _ _ _ h => h) (Or.inl ⟨by rfl, ?_⟩) hHeld ?_
      rotate_left
      ·intro wq hSw
       have xc := HD1.out _ hSw.2
       have xl := hSw.2.lt
       go_simp
       try with_reducible rfl
      try simp only [Act.put, List.getElem_toArray, List.getElem_cons_succ, List.getElem_cons_zero, List.setIfInBounds_toArray, List.set_cons_zero, List.set_cons_succ]
      refine wpAnyH_take (i := 5) (v := ?_) rfl (by kernel_rfl) (by kernel_rfl) (by kernel_rfl) (fun _ _ _ h => h) (Or.inl ⟨by rfl, ?_⟩) hHeld ?_
      rotate_left
      ·intro wq hSw
       go_simp
       try with_reducible rfl
      try simp only [Act.put, List.getElem_toArray, List.getElem_cons_succ, List.getElem_cons_zero, List.setIfInBounds_toArray, List.set_cons_zero, List.set_cons_succ]
      refine wpAnyH_take (i := 6) (v := ?_) rfl (by kernel_rfl) (by kernel_rfl) (by kernel_rfl) (fun _ _ _ h => h) (Or.inl ⟨by rfl, ?_⟩) hHeld ?_
      rotate_left
      ·intro wq hSw
       go_simp
       try with_reducible rfl
      try simp only [Act.put, List.getElem_toArray, List.getElem_cons_succ, List.getElem_cons_zero, List.setIfInBounds_toArray, List.set_cons_zero, List.set_cons_succ]
      refine wpAnyH_take (i := 7) (v := ?_) rfl (by kernel_rfl) (by kernel_rfl) (by kernel_rfl) (fun _ _ _ h => h) (Or.inl ⟨by rfl, ?_⟩) hHeld ?_
      rotate_left
      ·intro wq hSw
       have xc := HD2.out _ hSw.2
       have xl := hSw.2.lt
       go_simp
       try with_reducible rfl
      try simp only [Act.put, List.getElem_toArray, List.getElem_cons_succ, List.getElem_cons_zero, List.setIfInBounds_toArray, List.set_cons_zero, List.set_cons_succ]
      refine wpAnyH_take (i := 8) (v := ?_) rfl (by kernel_rfl) (by kernel_rfl) (by kernel_rfl) (fun _ _ _ h => h) (Or.inl ⟨by rfl, ?_⟩) hHeld ?_
      rotate_left
      ·intro wq hSw
       go_simp
       try with_reducible rfl
      try simp only [Act.put, List.getElem_toArray, List.getElem_cons_succ, List.getElem_cons_zero, List.setIfInBounds_toArray, List.set_cons_zero, List.set_cons_succ]
      refine wpAnyH_ready (rs := [1, 9]) (by kernel_rfl) (by simp) ?_
      refine AllReadyH.cons rfl (fun K hK => ?_) (AllReadyH.cons rfl (fun K hK => ?_) AllReadyH.nil)
      ·skip
       have zc := (HW9.out.R).cell
       have zl := (HW9.out.R).lt
       go_simp
       refine hK.out _ _ hHeld (fun hHeld2 => ?_)
       clear hK K hHeld2 zc zl
       try simp only [Act.put, List.getElem_toArray, List.getElem_cons_succ, List.getElem_cons_zero, List.setIfInBounds_toArray, List.set_cons_zero, List.set_cons_succ]
       refine wpAnyH_ready (rs := [9]) (by kernel_rfl) (by simp) ?_
       refine AllReadyH.cons rfl (fun K hK => ?_) AllReadyH.nil
       have hS8 := And.intro (hHeld.1.alloc HW9.out.h1 (.cells #[.string s1, .string s2] 77)) (hHeld.2.alloc (.cells #[.string s1, .string s2] 77))
       go_simp
       refine hK.out _ _ hS8 (fun hHeld2 => ?_)
       clear hK K hHeld hHeld2
       have hHeld := hS8
       clear hS8
       try simp only [Act.put, List.getElem_toArray, List.getElem_cons_succ, List.getElem_cons_zero, List.setIfInBounds_toArray, List.set_cons_zero, List.set_cons_succ]
       refine wpAnyH_ready (rs := [10]) (by kernel_rfl) (by simp) ?_
       refine AllReadyH.cons rfl (fun K hK => ?_) AllReadyH.nil
       have hM1 := HW9.out.M.step ((Below.refl _ _).alloc (Nat.le_refl _) (.cells #[.string s1, .string s2] 77))
       have hzv := HW9.out.h1
       refine step_append_lies _ (by rfl) _ _ _ (by rfl) rd 77 iR _ 2 32 Tryz.underlying24 hiR he0 he1 he2 rfl (by omega) LV st.ls.length _ (by rfl) hM1.hL ⟨v0.heap.size, 0, none⟩ 1 1 [.string s1, .string s2] (by rfl) (by rfl) (World.news_of_block (cs := #[.string s1, .string s2]) (t := 77) (fr := (0, 0)) (heap_alloc_new v0 _)) (by simp [Value.oneCell']) (by omega) (by unfold maxLen; omega) (by omega) (by simp; omega) (v0.heap.size + 1) (by simp) ?_; intro gg cap2 w6 hown1 hgrow hat hlt6
       obtain ⟨⟨zc, zf, zl⟩, hb6, hx6, hFin⟩ := RL_fin (x := (s1, s2)) HW9.out hown1 hgrow
       have hX6 := (hHeld.2).grown hgrow ((hHeld.2).own_ne hM1.hL (by decide))
       refine hK.out _ _ ⟨hb6, hX6⟩ (fun hHeld2 => ?_)
       clear hK K hHeld hHeld2
       try simp only [Act.put, List.getElem_toArray, List.getElem_cons_succ, List.getElem_cons_zero, List.setIfInBounds_toArray, List.set_cons_zero, List.set_cons_succ]
       have hHeld := And.intro hb6 hX6
       refine wpAnyH_take (i := 11) (v := ?_) rfl (by kernel_rfl) (by kernel_rfl) (by kernel_rfl) (fun _ _ _ h => h) (Or.inl ⟨by rfl, ?_⟩) hHeld ?_
       rotate_left
       ·intro wq hSw
        go_simp
        try with_reducible rfl
       try simp only [Act.put, List.getElem_toArray, List.getElem_cons_succ, List.getElem_cons_zero, List.setIfInBounds_toArray, List.set_cons_zero, List.set_cons_succ]
       refine wpAnyH_ready (rs := [12]) (by kernel_rfl) (by simp) ?_
       refine AllReadyH.cons rfl (fun K hK => ?_) AllReadyH.nil
       have hS8 := And.intro (hFin.L) (hX6.far (a := ⟨rd, 2, none⟩) (HNX.out) (.slice (some ⟨gg, 0, none⟩) (st.ls.length + 1) cap2))
       go_simp
       refine hK.out _ _ hS8 (fun hHeld2 => ?_)
       clear hK K hHeld hHeld2 hS8
       try simp only [Act.put, List.getElem_toArray, List.getElem_cons_succ, List.getElem_cons_zero, List.setIfInBounds_toArray, List.set_cons_zero, List.set_cons_succ]
       refine wpAnyH_done (by kernel_rfl) ?_ _
       refine NoPanic.normal ?_
       have HFin := Lib.hid hFin
       clear hFin zc zf zl hb6 hx6 hX6 hown1 hgrow hat hlt6 hM1 HW9
       obtain ⟨V7, hV7⟩ : ∃ V, w6.setCell ⟨rd, 2, none⟩ (.slice (some ⟨gg, 0, none⟩) (st.ls.length + 1) cap2) = V := ⟨_, rfl⟩
       rw [hV7] at HFin ⊢
       clear hV7
       have HSn9 := Lib.hid (HSt.out.next (st' := ⟨st.rs, st.zs, st.ls ++ [((wordB 32 x).getD 1 eMT, (wordB 32 x).getD 2 eMT)], st.op⟩) (zs' := zs) HXx.out HXs.out (Or.inr (Or.inr (Or.inl ⟨HC1.out, HC2.out, rfl⟩))) (HSt.out.hz))
       have HWn9 := Lib.hid (show BrW W1 V7 rd rd RV ZV (.slice (some ⟨gg, 0, none⟩) (st.ls.length + 1) cap2) (⟨st.rs, st.zs, st.ls ++ [((wordB 32 x).getD 1 eMT, (wordB 32 x).getD 2 eMT)], st.op⟩ : PbS).rs zs (⟨st.rs, st.zs, st.ls ++ [((wordB 32 x).getD 1 eMT, (wordB 32 x).getD 2 eMT)], st.op⟩ : PbS).ls from by rw [HS1.out, HS2.out]; exact HFin.out)
       clear HNI HBn HSt HW HXx HXs
       go_wp2_with fail
       exact ⟨⟨k + 1, ⟨st.rs, st.zs, st.ls ++ [((wordB 32 x).getD 1 eMT, (wordB 32 x).getD 2 eMT)], st.op⟩, RV, ZV, (.slice (some ⟨gg, 0, none⟩) (st.ls.length + 1) cap2), zs, by omega, by rw [HOp.out], by go_num, HSn9, HWn9⟩, by simp only [intOf]; omega⟩
      have hS8 := And.intro (hHeld.1.alloc HW9.out.h1 (.cells #[.string s1, .string s2] 77)) (hHeld.2.alloc (.cells #[.string s1, .string s2] 77))
      go_simp
      refine hK.out _ _ hS8 (fun hHeld2 => ?_)
      clear hK K hHeld hHeld2
      have hHeld := hS8
      clear hS8
      try simp only [Act.put, List.getElem_toArray, List.getElem_cons_succ, List.getElem_cons_zero, List.setIfInBounds_toArray, List.set_cons_zero, List.set_cons_succ]
      refine wpAnyH_ready (rs := [1]) (by kernel_rfl) (by simp) ?_
      refine AllReadyH.cons rfl (fun K hK => ?_) AllReadyH.nil
      have zc := (HW9.out.R.alloc (.cells #[.string s1, .string s2] 77)).cell
      have zl := (HW9.out.R.alloc (.cells #[.string s1, .string s2] 77)).lt
      go_simp
      refine hK.out _ _ hHeld (fun hHeld2 => ?_)
      clear hK K hHeld2 zc zl
      try simp only [Act.put, List.getElem_toArray, List.getElem_cons_succ, List.getElem_cons_zero, List.setIfInBounds_toArray, List.set_cons_zero, List.set_cons_succ]
      refine wpAnyH_ready (rs := [10]) (by kernel_rfl) (by simp) ?_
      refine AllReadyH.cons rfl (fun K hK => ?_) AllReadyH.nil
      have hM1 := HW9.out.M.step ((Below.refl _ _).alloc (Nat.le_refl _) (.cells #[.string s1, .string s2] 77))
      have hzv := HW9.out.h1
      refine step_append_lies _ (by rfl) _ _ _ (by rfl) rd 77 iR _ 2 32 Tryz.underlying24 hiR he0 he1 he2 rfl (by omega) LV st.ls.length _ (by rfl) hM1.hL ⟨v0.heap.size, 0, none⟩ 1 1 [.string s1, .string s2] (by rfl) (by rfl) (World.news_of_block (cs := #[.string s1, .string s2]) (t := 77) (fr := (0, 0)) (heap_alloc_new v0 _)) (by simp [Value.oneCell']) (by omega) (by unfold maxLen; omega) (by omega) (by simp; omega) (v0.heap.size + 1) (by simp) ?_; intro gg cap2 w6 hown1 hgrow hat hlt6
      obtain ⟨⟨zc, zf, zl⟩, hb6, hx6, hFin⟩ := RL_fin (x := (s1, s2)) HW9.out hown1 hgrow
      have hX6 := (hHeld.2).grown hgrow ((hHeld.2).own_ne hM1.hL (by decide))
      refine hK.out _ _ ⟨hb6, hX6⟩ (fun hHeld2 => ?_)
      clear hK K hHeld hHeld2
      try simp only [Act.put, List.getElem_toArray, List.getElem_cons_succ, List.getElem_cons_zero, List.setIfInBounds_toArray, List.set_cons_zero, List.set_cons_succ]
      have hHeld := And.intro hb6 hX6
      refine wpAnyH_take (i := 11) (v := ?_) rfl (by kernel_rfl) (by kernel_rfl) (by kernel_rfl) (fun _ _ _ h => h) (Or.inl ⟨by rfl, ?_⟩) hHeld ?_
      rotate_left
      ·intro wq hSw
       go_simp
       try with_reducible rfl
      try simp only [Act.put, List.getElem_toArray, List.getElem_cons_succ, List.getElem_cons_zero, List.setIfInBounds_toArray, List.set_cons_zero, List.set_cons_succ]
      refine wpAnyH_ready (rs := [12]) (by kernel_rfl) (by simp) ?_
      refine AllReadyH.cons rfl (fun K hK => ?_) AllReadyH.nil
      have hS8 := And.intro (hFin.L) (hX6.far (a := ⟨rd, 2, none⟩) (HNX.out) (.slice (some ⟨gg, 0, none⟩) (st.ls.length + 1) cap2))
      go_simp
      refine hK.out _ _ hS8 (fun hHeld2 => ?_)
      clear hK K hHeld hHeld2 hS8
      try simp only [Act.put, List.getElem_toArray, List.getElem_cons_succ, List.getElem_cons_zero, List.setIfInBounds_toArray, List.set_cons_zero, List.set_cons_succ]
      refine wpAnyH_done (by kernel_rfl) ?_ _
      refine NoPanic.normal ?_
      have HFin := Lib.hid hFin
      clear hFin zc zf zl hb6 hx6 hX6 hown1 hgrow hat hlt6 hM1 HW9
      obtain ⟨V7, hV7⟩ : ∃ V, w6.setCell ⟨rd, 2, none⟩ (.slice (some ⟨gg, 0, none⟩) (st.ls.length + 1) cap2) = V := ⟨_, rfl⟩
      rw [hV7] at HFin ⊢
      clear hV7
      have HSn9 := Lib.hid (HSt.out.next (st' := ⟨st.rs, st.zs, st.ls ++ [((wordB 32 x).getD 1 eMT, (wordB 32 x).getD 2 eMT)], st.op⟩) (zs' := zs) HXx.out HXs.out (Or.inr (Or.inr (Or.inl ⟨HC1.out, HC2.out, rfl⟩))) (HSt.out.hz))
      have HWn9 := Lib.hid (show BrW W1 V7 rd rd RV ZV (.slice (some ⟨gg, 0, none⟩) (st.ls.length + 1) cap2) (⟨st.rs, st.zs, st.ls ++ [((wordB 32 x).getD 1 eMT, (wordB 32 x).getD 2 eMT)], st.op⟩ : PbS).rs zs (⟨st.rs, st.zs, st.ls ++ [((wordB 32 x).getD 1 eMT, (wordB 32 x).getD 2 eMT)], st.op⟩ : PbS).ls from by rw [HS1.out, HS2.out]; exact HFin.out)
      clear HNI HBn HSt HW HXx HXs
      go_wp2_with fail
      exact ⟨⟨k + 1, ⟨st.rs, st.zs, st.ls ++ [((wordB 32 x).getD 1 eMT, (wordB 32 x).getD 2 eMT)], st.op⟩, RV, ZV, (.slice (some ⟨gg, 0, none⟩) (st.ls.length + 1) cap2), zs, by omega, by rw [HOp.out], by go_num, HSn9, HWn9⟩, by simp only [intOf]; omega⟩
   by_cases c4 : w0 = eRA
   ·have t1 : (w0.toList == [114, 117, 108, 101]) = false := by rw [← bw_list.1]; exact str_ne c1
    have t2 : (w0.toList == [122, 111, 110, 101]) = false := by rw [← bw_list.2.1]; exact str_ne c2
    have t3 : (w0.toList == [108, 105, 110, 107]) = false := by rw [← bw_list.2.2.2]; exact str_ne c3
    have t4 : (w0.toList == [101, 114, 97]) = true := by rw [c4, bw_list.2.2.1]; rfl
    have HC1 := Lib.hid (show (wordB 32 x).getD 0 eMT = eRA by rw [HW0.out, c4])
    clear c1 c2 c3 c4
    cases op with
    | false =>
     have HNe := Lib.hid (ln_era (F := F) (st := st) HC1.out (fun h => (by have h9 := h.1; rw [HOp.out] at h9; cases h9)))
     have HNo := Lib.hid (HNI.out HNe.out)
     have HLo := Lib.hid (HW.out.L)
     have HT5 := Lib.hid (HBn.out _ HLo.out).1
     have HB5 := Lib.hid (HBn.out _ HLo.out).2
     clear HNI HBn HSt HW HXx HXs
     have tr := HT5.out.frz
     have tl := HT5.out.lt
     have tc := HT5.out.cell
     go_wp2_with fail
     have HF := Lib.hid (bk3 HT5.out (x := .slice none 0 0) (y := .slice none 0 0) (z := .slice none 0 0))
     have HBF := Lib.hid (show Below w.heap.size w (((V1.setCell ⟨w.heap.size, 0, none⟩ (.slice none 0 0)).setCell ⟨w.heap.size, 1, none⟩ (.slice none 0 0)).setCell ⟨w.heap.size, 2, none⟩ (.slice none 0 0)) from below3 HB5.out (Nat.le_refl _))
     obtain ⟨U, hU⟩ : ∃ U, (((V1.setCell ⟨w.heap.size, 0, none⟩ (.slice none 0 0)).setCell ⟨w.heap.size, 1, none⟩ (.slice none 0 0)).setCell ⟨w.heap.size, 2, none⟩ (.slice none 0 0)) = U := ⟨_, rfl⟩
     rw [hU] at HF HBF
     try rw [hU]
     have hf := HF.out.cell
     exact bodyPost_ret (v := .tuple #[.agg #[.slice none 0 0, .slice none 0 0, .slice none 0 0], .int .i64 ((k : Int) + 1), .int .i64 3]) (by simp [results, Tryz.results7, go_sem, hf]) rfl (bp_bad HNo.out HBF.out)
    | true =>
     go_wp2_with fail
     refine (r_outside (n : Int) 4 5 V1).mono ?_
     rintro e w9 ⟨rfl, rfl⟩
     by_cases h45 : n = 4 ∨ n = 5
     rotate_left
     ·have q : decide ((n : Int) < 4 ∨ 5 < (n : Int)) = true := decide_eq_true (by omega)
      rw [q]
      have HNe := Lib.hid (ln_era (F := F) (st := st) HC1.out (fun h => h45 (by rw [← HN2.out]; exact h.2.1)))
      clear h45 q
      have HNo := Lib.hid (HNI.out HNe.out)
      have HLo := Lib.hid (HW.out.L)
      have HT5 := Lib.hid (HBn.out _ HLo.out).1
      have HB5 := Lib.hid (HBn.out _ HLo.out).2
      clear HNI HBn HSt HW HXx HXs
      have tr := HT5.out.frz
      have tl := HT5.out.lt
      have tc := HT5.out.cell
      go_wp2_with fail
      have HF := Lib.hid (bk3 HT5.out (x := .slice none 0 0) (y := .slice none 0 0) (z := .slice none 0 0))
      have HBF := Lib.hid (show Below w.heap.size w (((V1.setCell ⟨w.heap.size, 0, none⟩ (.slice none 0 0)).setCell ⟨w.heap.size, 1, none⟩ (.slice none 0 0)).setCell ⟨w.heap.size, 2, none⟩ (.slice none 0 0)) from below3 HB5.out (Nat.le_refl _))
      obtain ⟨U, hU⟩ : ∃ U, (((V1.setCell ⟨w.heap.size, 0, none⟩ (.slice none 0 0)).setCell ⟨w.heap.size, 1, none⟩ (.slice none 0 0)).setCell ⟨w.heap.size, 2, none⟩ (.slice none 0 0)) = U := ⟨_, rfl⟩
      rw [hU] at HF HBF
      try rw [hU]
      have hf := HF.out.cell
      exact bodyPost_ret (v := .tuple #[.agg #[.slice none 0 0, .slice none 0 0, .slice none 0 0], .int .i64 ((k : Int) + 1), .int .i64 3]) (by simp [results, Tryz.results7, go_sem, hf]) rfl (bp_bad HNo.out HBF.out)
     have q : decide ((n : Int) < 4 ∨ 5 < (n : Int)) = false := decide_eq_false (by omega)
     rw [q]
     clear q
     obtain ⟨Y, z, hYz⟩ : ∃ Y z, zs = Y ++ [z] := by
      have hne : zs ≠ [] := fun e => (HSt.out.g.op HOp.out).2 (by rw [← HSt.out.hz, e]; rfl)
      exact ⟨zs.dropLast, zs.getLast hne, (List.dropLast_concat_getLast hne).symm⟩
     subst hYz
     obtain ⟨Zb, cz, rfl⟩ : ∃ Zb cz, ZV = .slice (some ⟨Zb, 0, none⟩) (Y.length + 1) cz := by
      rcases HW.out.M.hZ.2 with h | ⟨g, c, cur, a1, _⟩
      ·exfalso; have := h.2; simp at this
      ·exact ⟨g, c, by rw [a1]; simp⟩
     have h4i : 1 < n ∧ 2 < n ∧ 3 < n := by omega
     have hm := fun i => (show (ws.getD i eMT).size ≤ 60000 from by
      by_cases h : i < ws.length
      ·have e : ws.getD i eMT = ws[i] := by simp [List.getD, h]
       rw [e]; exact HSZ.out _ (List.getElem_mem h)
      ·have e : ws.getD i eMT = eMT := by simp [List.getD, show ws[i]? = none from List.getElem?_eq_none (by omega)]
       rw [e]; exact Nat.zero_le _)
     have HSG := Lib.hid hm
     clear hm
     have HC := Lib.hid (fun (V : World) (h : Blk V Wb 9 (ws.map Value.string).toArray) (i : Nat) (hi : i < n) => wd_at h (by rw [HN.out]; exact hi))
     obtain ⟨s1, hs1⟩ : ∃ x, ws.getD 1 eMT = x := ⟨_, rfl⟩
     obtain ⟨s2, hs2⟩ : ∃ x, ws.getD 2 eMT = x := ⟨_, rfl⟩
     obtain ⟨s3, hs3⟩ : ∃ x, ws.getD 3 eMT = x := ⟨_, rfl⟩
     obtain ⟨s4, hs4⟩ : ∃ x, ws.getD 4 eMT = x := ⟨_, rfl⟩
     have HS1 := Lib.hid (show (wordB 32 x).getD 1 eMT = s1 by rw [← HWS.out]; exact hs1)
     have HS2 := Lib.hid (show (wordB 32 x).getD 2 eMT = s2 by rw [← HWS.out]; exact hs2)
     have HS3 := Lib.hid (show (wordB 32 x).getD 3 eMT = s3 by rw [← HWS.out]; exact hs3)
     have HS4 := Lib.hid (show (wordB 32 x).getD 4 eMT = s4 by rw [← HWS.out]; exact hs4)
     have z1 : s1.size ≤ 60000 := by rw [← hs1]; exact HSG.out 1
     have z2 : s2.size ≤ 60000 := by rw [← hs2]; exact HSG.out 2
     have z4 : s4.size ≤ 60000 := by rw [← hs4]; exact HSG.out 4
     have HX1 := Lib.hid (fun (V : World) (h : Blk V Wb 9 (ws.map Value.string).toArray) => (by have q := HC.out V h 1 (by omega); rw [hs1] at q; exact q : V.cell? ⟨Wb, 1, none⟩ = some (.string s1)))
     have HX2 := Lib.hid (fun (V : World) (h : Blk V Wb 9 (ws.map Value.string).toArray) => (by have q := HC.out V h 2 (by omega); rw [hs2] at q; exact q : V.cell? ⟨Wb, 2, none⟩ = some (.string s2)))
     have HX3 := Lib.hid (fun (V : World) (h : Blk V Wb 9 (ws.map Value.string).toArray) => (by have q := HC.out V h 3 (by omega); rw [hs3] at q; exact q : V.cell? ⟨Wb, 3, none⟩ = some (.string s3)))
     have HX4 := Lib.hid (fun (V : World) (h : Blk V Wb 9 (ws.map Value.string).toArray) (h5 : 4 < n) => (by have q := HC.out V h 4 h5; rw [hs4] at q; exact q : V.cell? ⟨Wb, 4, none⟩ = some (.string s4)))
     clear hs1 hs2 hs3 hs4 HC HSG c0 xl
     have hn1 : (1 : Int) < (n : Int) := by omega
     have hn2 : (2 : Int) < (n : Int) := by omega
     have hn3 : (3 : Int) < (n : Int) := by omega
     have H45 := Lib.hid h45
     clear h45
     have HWb := HW
     replace HW := Lib.hid HW.out.here
     have xc := HX3.out _ HXw.out
     have xl := HXw.out.lt
     go_upto_region 30 with fail
     clear xc xl
     have hV := (Below.refl V1.heap.size V1).alloc (Nat.le_refl _) (.cells #[.int .i64 0, .string ⟨#[]⟩, .int .i64 0, .string s3, .int .i64 0] 80)
     have HE := Lib.hid (Blk.new V1 #[.int .i64 0, .string ⟨#[]⟩, .int .i64 0, .string s3, .int .i64 0] 80)
     have HgE := Lib.hid (show ∀ q ∈ Y ++ [z], (zoS q).ownBlock ≠ some V1.heap.size from fun q hq e => by have := ((HW.out.M.hE q hq).lt _ e).2; omega)
     have hbE := HW.out.h1
     replace HW := Lib.hid (HW.out.step hV)
     clear hV
     obtain ⟨V0, hV0⟩ : ∃ V, V1.alloc (.cells #[.int .i64 0, .string ⟨#[]⟩, .int .i64 0, .string s3, .int .i64 0] 80) = V := ⟨_, rfl⟩
     obtain ⟨X, hXe⟩ : ∃ X, V1.heap.size = X := ⟨_, rfl⟩
     rw [hV0] at HW HE ⊢
     rw [hXe] at HE HgE hbE ⊢
     clear hV0 hXe
     have xc := HX1.out _ (HW.out.S Wb _ HXw.out)
     have xl := (HW.out.S Wb _ HXw.out).lt
     have HSp := Lib.hid (r_SpanRead s1 (by omega) V0)
     go_wp2_with fail
     refine HSp.out.mono ?_
     rintro e w7 ⟨v1, e1, rfl, ha, hb⟩
     have HA1 := Lib.hid ha
     replace HW := Lib.hid (HW.out.step hb)
     replace HE := Lib.hid (HE.out.step hb)
     clear hb ha HSp xc xl
     have ec := HE.out.cell
     have ez := HE.out.frz
     have el := HE.out.lt
     go_upto_region 32 with fail
     have HE9 := eb_0 HE.out v1
     replace HW := Lib.hid (HW.out.off HE.out hbE (by decide) (by decide) (by decide) (by decide) (Or.inr HgE.out) (by decide) 0 (.int .i64 v1))
     replace HE := Lib.hid HE9
     clear HE9
     obtain ⟨V2, hV2⟩ : ∃ V, w7.setCell ⟨X, 0, none⟩ (.int .i64 v1) = V := ⟨_, rfl⟩
     rw [hV2] at HW HE ⊢
     clear hV2
     clear ec ez el
     have xc := HX2.out _ (HW.out.S Wb _ HXw.out)
     have xl := (HW.out.S Wb _ HXw.out).lt
     go_wp2_with fail
     refine (Tryz.strings_HasPrefix s2 ⟨#[45]⟩ V2).mono ?_
     rintro e w8 ⟨rfl, rfl⟩
     obtain ⟨ng, hng⟩ : ∃ ng, Lib.hasPrefix s2.data.toList (⟨#[45]⟩ : ByteArray).data.toList = ng := ⟨_, rfl⟩
     have HNG := Lib.hid (show isNeg s2 = ng from hng)
     rw [hng]
     clear hng xc xl
     go_upto_if 137 with fail
     go_cut [16] from 138 to 155 (fun v7 wx => ∃ (f7 sv : Int), v7 = .int .i64 f7 ∧ Hid (saveV F s2 = (sv, f7)) ∧ Hid (BrW V1 wx rd rd RV (.slice (some ⟨Zb, 0, none⟩) (Y.length + 1) cz) LV st.rs (Y ++ [z]) st.ls) ∧ Hid (Blk wx X 80 #[.int .i64 v1, .string (if ng = true then eMT else s2), .int .i64 sv, .string s3, .int .i64 0]))
     case first =>
      cases ng with
      | true =>
       have hs1z : (1 : Int) ≤ (s2.size : Int) := by
        have h9 := HNG.out
        unfold isNeg at h9
        have e2 : s2.size = s2.data.toList.length := Lib.size_eq s2
        cases e : s2.data.toList with
        | nil => rw [e] at h9; cases h9
        | cons c r => rw [e] at e2; simp at e2; omega
       obtain ⟨tt, htt⟩ : ∃ t, s2.extract 1 s2.size = t := ⟨_, rfl⟩
       have htz : tt.size ≤ 60000 := by rw [← htt, ByteArray.size_extract]; omega
       have HTT := Lib.hid (show (⟨(s2.data.toList.drop 1).toArray⟩ : ByteArray) = tt from by rw [← Lib.extract_to_end, htt])
       have HSV := Lib.hid (show saveV F s2 = F.sp tt by unfold saveV; rw [HNG.out, if_pos rfl, HTT.out])
       have xc := HX2.out _ (HW.out.S Wb _ HXw.out)
       have xl := (HW.out.S Wb _ HXw.out).lt
       have HSp := Lib.hid (fun (V : World) => r_SpanRead (s2.extract 1 s2.size) (by rw [ByteArray.size_extract]; omega) V)
       have HTe := Lib.hid htt
       clear htt
       go_wp2_with fail
       refine (HSp.out _).mono ?_
       rintro e w7 ⟨v2, f2, rfl, ha, hb⟩
       rw [HTe.out] at ha
       have HA2 := Lib.hid ha
       replace HW := Lib.hid (HW.out.step hb)
       replace HE := Lib.hid (HE.out.step hb)
       clear hb ha HSp xc xl
       have ec := HE.out.cell
       have ez := HE.out.frz
       have el := HE.out.lt
       go_wp2_with fail
       have HE9 := eb_2 HE.out v2
       replace HW := Lib.hid (HW.out.off HE.out hbE (by decide) (by decide) (by decide) (by decide) (Or.inr HgE.out) (by decide) 2 (.int .i64 v2))
       replace HE := Lib.hid HE9
       clear HE9
       clear ec ez el
       go_meet
       exact ⟨f2, v2, rfl, Lib.hid (by rw [HSV.out]; exact F.sp_eq HA2.out), HW, HE⟩
      | false =>
       obtain ⟨nb, hnb⟩ : ∃ nb, isNameB s2.data.toList = nb := ⟨_, rfl⟩
       have HSV := Lib.hid (show saveV F s2 = (0, if nb = true then 0 else 3) by unfold saveV; rw [HNG.out, if_neg (by decide), hnb])
       have HIs := Lib.hid (fun (V : World) => r_IsName s2 (by unfold maxLen; omega) V)
       rw [hnb] at HIs
       clear hnb
       have xc := HX2.out _ (HW.out.S Wb _ HXw.out)
       have xl := (HW.out.S Wb _ HXw.out).lt
       have ec := HE.out.cell
       have ez := HE.out.frz
       have el := HE.out.lt
       go_upto_region 35 with fail
       clear xc xl
       have HE9 := eb_1 HE.out s2
       replace HW := Lib.hid (HW.out.off HE.out hbE (by decide) (by decide) (by decide) (by decide) (Or.inr HgE.out) (by decide) 1 (.string s2))
       replace HE := Lib.hid HE9
       clear HE9
       obtain ⟨V3, hV3⟩ : ∃ V, w8.setCell ⟨X, 1, none⟩ (.string s2) = V := ⟨_, rfl⟩
       rw [hV3] at HW HE ⊢
       clear hV3
       clear ec ez el
       have xc := HX2.out _ (HW.out.S Wb _ HXw.out)
       have xl := (HW.out.S Wb _ HXw.out).lt
       go_wp2_with fail
       refine (HIs.out _).mono ?_
       rintro e w9 ⟨rfl, hb⟩
       replace HW := Lib.hid (HW.out.step hb)
       replace HE := Lib.hid (HE.out.step hb)
       clear xc xl HIs hb
       cases nb with
       | false =>
        go_wp2_with fail
        go_meet
        exact ⟨3, 0, rfl, HSV, HW, HE⟩
       | true =>
        go_wp2_with fail
        go_meet
        exact ⟨0, 0, rfl, HSV, HW, HE⟩
     case rest =>
      clear HW HE
      obtain ⟨f7, sv, hv, HSV, HW, HE⟩ := hcut
      subst hv
      generalize wc = V4 at *
      obtain ⟨rl2, hrl2⟩ : ∃ x : ByteArray, (if ng = true then eMT else s2) = x := ⟨_, rfl⟩
      have HRL := Lib.hid hrl2
      rw [hrl2] at HE
      clear hrl2
      go_upto_if 158 with fail
      go_cut [17] from 156 to 166 (fun v8 wx => ∃ (g8 un : Int), v8 = .int .i64 g8 ∧ Hid (untV F (wordB 32 x) = (un, g8)) ∧ Hid (BrW V1 wx rd rd RV (.slice (some ⟨Zb, 0, none⟩) (Y.length + 1) cz) LV st.rs (Y ++ [z]) st.ls) ∧ Hid (Blk wx X 80 #[.int .i64 v1, .string rl2, .int .i64 sv, .string s3, .int .i64 un]))
      case first =>
       by_cases h5 : n = 5
       ·have HU := Lib.hid (show untV F (wordB 32 x) = F.st s4 by unfold untV; rw [HN2.out, if_pos h5, HS4.out])
        have h5' : ((n : Int) == 5) = true := by rw [beq_iff_eq]; omega
        have hn4 : (4 : Int) < (n : Int) := by omega
        have hn4' : 4 < n := by omega
        clear h5
        have xc := HX4.out _ (HW.out.S Wb _ HXw.out) hn4'
        have xl := (HW.out.S Wb _ HXw.out).lt
        have HSp := Lib.hid (r_StampRead s4 V4 (by omega))
        go_wp2_with fail
        refine HSp.out.mono ?_
        rintro e w7 ⟨un, g8, rfl, ha, hb⟩
        have HA3 := Lib.hid ha
        replace HW := Lib.hid (HW.out.step hb)
        replace HE := Lib.hid (HE.out.step hb)
        clear hb ha HSp xc xl
        have ec := HE.out.cell
        have ez := HE.out.frz
        have el := HE.out.lt
        go_wp2_with fail
        have HE9 := eb_4 HE.out un
        replace HW := Lib.hid (HW.out.off HE.out hbE (by decide) (by decide) (by decide) (by decide) (Or.inr HgE.out) (by decide) 4 (.int .i64 un))
        replace HE := Lib.hid HE9
        clear HE9
        clear ec ez el
        go_meet
        exact ⟨g8, un, rfl, Lib.hid (by rw [HU.out]; exact F.st_eq HA3.out), HW, HE⟩
       ·have HU := Lib.hid (show untV F (wordB 32 x) = (0, 0) by unfold untV; rw [HN2.out, if_neg h5])
        have h5' : ((n : Int) == 5) = false := by rw [beq_eq_false_iff_ne]; omega
        clear h5
        go_wp2_with fail
        go_meet
        exact ⟨0, 0, rfl, HU, HW, HE⟩
      case rest =>
       clear HW HE
       obtain ⟨g8, un, hv, HUN, HW, HE⟩ := hcut
       subst hv
       generalize wc = V5 at *
       have HEV := Lib.hid (show eraV F (wordB 32 x) = ⟨v1, rl2, sv, s3, un⟩ by
        unfold eraV
        rw [HS1.out, HS2.out, HS3.out, HNG.out, HRL.out, HSV.out, HUN.out, F.sp_eq HA1.out])
       have HEG := Lib.hid (show eraG F (wordB 32 x) ↔ (e1 = 0 ∧ f7 = 0 ∧ g8 = 0) by
        unfold eraG
        rw [HS1.out, HS2.out, HSV.out, HUN.out, F.sp_eq HA1.out])
       clear HSV HUN HRL
       go_upto_region 39 with fail
       go_cut [11] from 167 to 176 (fun v wx => ∃ ok : Bool, v = .bool ok ∧ Hid (OkIs ok (eraG F (wordB 32 x))) ∧ wx = V5)
       case first =>
        by_cases q1 : e1 = 0
        ·by_cases q2 : f7 = 0
         ·by_cases q3 : g8 = 0
          ·have HOk := Lib.hid (show (OkIs true (eraG F (wordB 32 x))) from ⟨fun _ => HEG.out.2 ⟨q1, q2, q3⟩, fun _ => rfl⟩)
           subst q1 q2 q3
           go_wp2_with fail
           go_meet
           exact ⟨true, rfl, HOk, rfl⟩
          ·have HOk := Lib.hid (show (OkIs false (eraG F (wordB 32 x))) from ⟨fun h => (by cases h), fun h => absurd (HEG.out.1 h).2.2 q3⟩)
           have q3' : (g8 == 0) = false := by rw [beq_eq_false_iff_ne]; exact q3
           subst q1 q2
           clear q3
           go_wp2_with fail
           go_meet
           exact ⟨false, rfl, HOk, rfl⟩
         ·have HOk := Lib.hid (show (OkIs false (eraG F (wordB 32 x))) from ⟨fun h => (by cases h), fun h => absurd (HEG.out.1 h).2.1 q2⟩)
          have q2' : (f7 == 0) = false := by rw [beq_eq_false_iff_ne]; exact q2
          subst q1
          clear q2
          go_wp2_with fail
          go_meet
          exact ⟨false, rfl, HOk, rfl⟩
        ·have HOk := Lib.hid (show (OkIs false (eraG F (wordB 32 x))) from ⟨fun h => (by cases h), fun h => absurd (HEG.out.1 h).1 q1⟩)
         have q1' : (e1 == 0) = false := by rw [beq_eq_false_iff_ne]; exact q1
         clear q1
         go_wp2_with fail
         go_meet
         exact ⟨false, rfl, HOk, rfl⟩
       case rest =>
        obtain ⟨ok, hv, HOk, hwc⟩ := hcut
        subst hv
        have hwc2 := hwc.symm
        clear hwc
        subst hwc2
        have rc := HW.out.R.cell
        have rl := HW.out.R.lt
        have hsz := HSm.out.2.1
        simp only [List.length_append, List.length_cons, List.length_nil] at hsz
        have hwY : IntKind.i64.wrap (Y.length : Int) = (Y.length : Int) := IntWalk.i64_in _ (by omega)
        have hy1 : (0 : Int) ≤ (Y.length : Int) := by omega
        have hy2 : (Y.length : Int) < (Y.length : Int) + 1 := by omega
        go_upto_region 42 with fail
        clear rc rl
        obtain ⟨iE, hiE, he0, he1, he2⟩ := info_parts info_ErS
        have hzl := HSm.out.2.2.2 z (by simp)
        have HNX := Lib.hid (show X ≠ Zb from fun e => HE.out.own_ne HW.out.M.hZ (by decide) (by rw [e]; rfl))
        refine wp_region_noPanic ?_
        refine wp_region_held_drew (S := fun W' : World => Below rd V1 W' ∧ Blk W' X 80 #[.int .i64 v1, .string rl2, .int .i64 sv, .string s3, .int .i64 un]) (by kernel_rfl) ⟨HW.out.L.drew, HE.out.drew⟩ (fun hHeld0 => ?_)
        have hHeld := hHeld0
        clear hHeld0
        have HW9 := Lib.hid (HW.out.step (Below.refl _ _).drew)
        obtain ⟨v0, hv0⟩ : ∃ x, V5.drew = x := ⟨_, rfl⟩
        rw [hv0] at hHeld HW9 ⊢
        clear hv0
        refine wpAnyH_take (i := 0) (v := ?_) rfl (by kernel_rfl) (by kernel_rfl) (by kernel_rfl) (fun _ _ _ h => h) (Or.inl ⟨by rfl, ?_⟩) hHeld ?_
        rotate_left
        ·intro wq hSw
         go_simp
         try with_reducible rfl
        try simp only [Act.put, List.getElem_toArray, List.getElem_cons_succ, List.getElem_cons_zero, List.setIfInBounds_toArray, List.set_cons_zero, List.set_cons_succ]
        refine wpAnyH_take (i := 1) (v := ?_) rfl (by kernel_rfl) (by kernel_rfl) (by kernel_rfl) (fun _ _ _ h => h) (Or.inl ⟨by rfl, ?_⟩) hHeld ?_
        rotate_left
        ·intro wq hSw
         go_simp
         try with_reducible rfl
        try simp only [Act.put, List.getElem_toArray, List.getElem_cons_succ, List.getElem_cons_zero, List.setIfInBounds_toArray, List.set_cons_zero, List.set_cons_succ]
        refine wpAnyH_take (i := 2) (v := ?_) rfl (by kernel_rfl) (by kernel_rfl) (by kernel_rfl) (fun _ _ _ h => h) (Or.inl ⟨by rfl, ?_⟩) hHeld ?_
        rotate_left
        ·intro wq hSw
         go_simp
         try with_reducible rfl
        try simp only [Act.put, List.getElem_toArray, List.getElem_cons_succ, List.getElem_cons_zero, List.setIfInBounds_toArray, List.set_cons_zero, List.set_cons_succ]
        refine wpAnyH_take (i := 3) (v := ?_) rfl (by kernel_rfl) (by kernel_rfl) (by kernel_rfl) (fun _ _ _ h => h) (Or.inl ⟨by rfl, ?_⟩) hHeld ?_
        rotate_left
        ·intro wq hSw
         go_simp
         try with_reducible rfl
        try simp only [Act.put, List.getElem_toArray, List.getElem_cons_succ, List.getElem_cons_zero, List.setIfInBounds_toArray, List.set_cons_zero, List.set_cons_succ]
        refine wpAnyH_take (i := 5) (v := ?_) rfl (by kernel_rfl) (by kernel_rfl) (by kernel_rfl) (fun _ _ _ h => h) (Or.inl ⟨by rfl, ?_⟩) hHeld ?_
        rotate_left
        ·intro wq hSw
         have xc := hSw.2.cell
         have xl := hSw.2.lt
         go_simp
         try with_reducible rfl
        try simp only [Act.put, List.getElem_toArray, List.getElem_cons_succ, List.getElem_cons_zero, List.setIfInBounds_toArray, List.set_cons_zero, List.set_cons_succ]
        refine wpAnyH_ready (rs := [4, 6]) (by kernel_rfl) (by simp) ?_
        refine AllReadyH.cons rfl (fun K hK => ?_) (AllReadyH.cons rfl (fun K hK => ?_) AllReadyH.nil)
        ·skip
         obtain ⟨zc, zf, zl⟩ := zo_last HW9.out.M
         go_simp
         refine hK.out _ _ hHeld (fun hHeld2 => ?_)
         clear hK K hHeld2 zc zf zl
         try simp only [Act.put, List.getElem_toArray, List.getElem_cons_succ, List.getElem_cons_zero, List.setIfInBounds_toArray, List.set_cons_zero, List.set_cons_succ]
         refine wpAnyH_ready (rs := [6]) (by kernel_rfl) (by simp) ?_
         refine AllReadyH.cons rfl (fun K hK => ?_) AllReadyH.nil
         have hS8 := And.intro (hHeld.1.alloc HW9.out.h1 (.cells #[.int .i64 v1, .string rl2, .int .i64 sv, .string s3, .int .i64 un] 80)) (hHeld.2.alloc (.cells #[.int .i64 v1, .string rl2, .int .i64 sv, .string s3, .int .i64 un] 80))
         go_simp
         refine hK.out _ _ hS8 (fun hHeld2 => ?_)
         clear hK K hHeld hHeld2
         have hHeld := hS8
         clear hS8
         try simp only [Act.put, List.getElem_toArray, List.getElem_cons_succ, List.getElem_cons_zero, List.setIfInBounds_toArray, List.set_cons_zero, List.set_cons_succ]
         refine wpAnyH_ready (rs := [7]) (by kernel_rfl) (by simp) ?_
         refine AllReadyH.cons rfl (fun K hK => ?_) AllReadyH.nil
         have hM1 := HW9.out.M.step ((Below.refl _ _).alloc (Nat.le_refl _) (.cells #[.int .i64 v1, .string rl2, .int .i64 sv, .string s3, .int .i64 un] 80))
         have hzv := HW9.out.h1
         refine step_append_lies _ (by rfl) _ _ _ (by rfl) rd 80 iE _ 5 56 Tryz.underlying73 hiE he0 he1 he2 rfl (by omega) (zoS z) z.eras.length _ (by rfl) (hM1.hE z (by simp)) ⟨v0.heap.size, 0, none⟩ 1 1 (erC (⟨v1, rl2, sv, s3, un⟩ : ErT)) (by rfl) (by rfl) (World.news_of_block (cs := (erC (⟨v1, rl2, sv, s3, un⟩ : ErT)).toArray) (t := 80) (fr := (0, 0)) (heap_alloc_new v0 _)) (by simp [Value.oneCell', erC]) (by omega) (by unfold maxLen; omega) (by omega) (by simp; omega) (v0.heap.size + 1) (by simp) ?_; intro gg cap2 w6 hown1 hgrow hat hlt6
         have hF := Rera_fin (v0 := v0) HW9.out hown1 hgrow hat
         obtain ⟨zc, zf, zl, hb6, hx6, hFin⟩ := hF
         have hX6 := hx6 X #[.int .i64 v1, .string rl2, .int .i64 sv, .string s3, .int .i64 un] hHeld.2 HgE.out
         refine hK.out _ _ ⟨hb6, hX6⟩ (fun hHeld2 => ?_)
         clear hK K hHeld hHeld2
         try simp only [Act.put, List.getElem_toArray, List.getElem_cons_succ, List.getElem_cons_zero, List.setIfInBounds_toArray, List.set_cons_zero, List.set_cons_succ]
         have hHeld := And.intro hb6 hX6
         refine wpAnyH_take (i := 8) (v := ?_) rfl (by kernel_rfl) (by kernel_rfl) (by kernel_rfl) (fun _ _ _ h => h) (Or.inl ⟨by rfl, ?_⟩) hHeld ?_
         rotate_left
         ·intro wq hSw
          go_simp
          try with_reducible rfl
         try simp only [Act.put, List.getElem_toArray, List.getElem_cons_succ, List.getElem_cons_zero, List.setIfInBounds_toArray, List.set_cons_zero, List.set_cons_succ]
         refine wpAnyH_take (i := 9) (v := ?_) rfl (by kernel_rfl) (by kernel_rfl) (by kernel_rfl) (fun _ _ _ h => h) (Or.inl ⟨by rfl, ?_⟩) hHeld ?_
         rotate_left
         ·intro wq hSw
          go_simp
          try with_reducible rfl
         try simp only [Act.put, List.getElem_toArray, List.getElem_cons_succ, List.getElem_cons_zero, List.setIfInBounds_toArray, List.set_cons_zero, List.set_cons_succ]
         refine wpAnyH_ready (rs := [10]) (by kernel_rfl) (by simp) ?_
         refine AllReadyH.cons rfl (fun K hK => ?_) AllReadyH.nil
         have hS8 := And.intro (hFin.L) (hX6.far (a := ⟨Zb, Y.length * 2 + 1, none⟩) (HNX.out) (.slice (some ⟨gg, 0, none⟩) (z.eras.length + 1) cap2))
         go_simp
         refine hK.out _ _ hS8 (fun hHeld2 => ?_)
         clear hK K hHeld hHeld2 hS8
         try simp only [Act.put, List.getElem_toArray, List.getElem_cons_succ, List.getElem_cons_zero, List.setIfInBounds_toArray, List.set_cons_zero, List.set_cons_succ]
         refine wpAnyH_done (by kernel_rfl) ?_ _
         refine NoPanic.normal ?_
         have HFin := Lib.hid (HWb.out.trans hFin)
         clear hFin zc zf zl hb6 hx6 hX6 hown1 hgrow hat hlt6 hM1 HW9 HW HE
         obtain ⟨V7, hV7⟩ : ∃ V, w6.setCell ⟨Zb, Y.length * 2 + 1, none⟩ (.slice (some ⟨gg, 0, none⟩) (z.eras.length + 1) cap2) = V := ⟨_, rfl⟩
         rw [hV7] at HFin ⊢
         clear hV7
         replace HW := HWb
         cases ok with
         | true =>
          have HG2 := Lib.hid (HOk.out.1 rfl)
          have HSn9 := Lib.hid (HSt.out.next (st' := ⟨st.rs, addEra st.zs (eraV F (wordB 32 x)), st.ls, decide ((wordB 32 x).length = 5)⟩) (zs' := (Y ++ [⟨z.name, some ⟨gg, 0, none⟩, cap2, z.eras ++ [eraV F (wordB 32 x)]⟩])) HXx.out HXs.out (Or.inr (Or.inr (Or.inr (Or.inl ⟨HC1.out, ⟨HOp.out, by rw [HN2.out]; exact H45.out, HG2.out⟩, rfl⟩)))) (by rw [← HSt.out.hz]; simp [addEra, zoP]))
          have HWn9 := Lib.hid (show BrW W1 V7 rd rd RV (.slice (some ⟨Zb, 0, none⟩) (Y.length + 1) cz) LV (⟨st.rs, addEra st.zs (eraV F (wordB 32 x)), st.ls, decide ((wordB 32 x).length = 5)⟩ : PbS).rs (Y ++ [⟨z.name, some ⟨gg, 0, none⟩, cap2, z.eras ++ [eraV F (wordB 32 x)]⟩]) (⟨st.rs, addEra st.zs (eraV F (wordB 32 x)), st.ls, decide ((wordB 32 x).length = 5)⟩ : PbS).ls from by rw [HEV.out]; exact HFin.out)
          clear HNI HBn HSt HW HXx HXs
          go_wp2_with fail
          exact ⟨⟨k + 1, ⟨st.rs, addEra st.zs (eraV F (wordB 32 x)), st.ls, decide ((wordB 32 x).length = 5)⟩, RV, (.slice (some ⟨Zb, 0, none⟩) (Y.length + 1) cz), LV, (Y ++ [⟨z.name, some ⟨gg, 0, none⟩, cap2, z.eras ++ [eraV F (wordB 32 x)]⟩]), by omega, by rw [HN2.out, n5b], by go_num, HSn9, HWn9⟩, by simp only [intOf]; omega⟩
         | false =>
          have HNe := Lib.hid (ln_era (F := F) (st := st) HC1.out (fun h => (by have := HOk.out.2 h.2.2; cases this)))
          have HNo := Lib.hid (HNI.out HNe.out)
          have HLo := Lib.hid (HFin.out.L)
          have HT5 := Lib.hid (HBn.out _ HLo.out).1
          have HB5 := Lib.hid (HBn.out _ HLo.out).2
          clear HNI HBn HSt HW HXx HXs
          have tr := HT5.out.frz
          have tl := HT5.out.lt
          have tc := HT5.out.cell
          go_wp2_with fail
          have HF := Lib.hid (bk3 HT5.out (x := .slice none 0 0) (y := .slice none 0 0) (z := .slice none 0 0))
          have HBF := Lib.hid (show Below w.heap.size w (((V7.setCell ⟨w.heap.size, 0, none⟩ (.slice none 0 0)).setCell ⟨w.heap.size, 1, none⟩ (.slice none 0 0)).setCell ⟨w.heap.size, 2, none⟩ (.slice none 0 0)) from below3 HB5.out (Nat.le_refl _))
          obtain ⟨U, hU⟩ : ∃ U, (((V7.setCell ⟨w.heap.size, 0, none⟩ (.slice none 0 0)).setCell ⟨w.heap.size, 1, none⟩ (.slice none 0 0)).setCell ⟨w.heap.size, 2, none⟩ (.slice none 0 0)) = U := ⟨_, rfl⟩
          rw [hU] at HF HBF
          try rw [hU]
          have hf := HF.out.cell
          exact bodyPost_ret (v := .tuple #[.agg #[.slice none 0 0, .slice none 0 0, .slice none 0 0], .int .i64 ((k : Int) + 1), .int .i64 3]) (by simp [results, Tryz.results7, go_sem, hf]) rfl (bp_bad HNo.out HBF.out)
        have hS8 := And.intro (hHeld.1.alloc HW9.out.h1 (.cells #[.int .i64 v1, .string rl2, .int .i64 sv, .string s3, .int .i64 un] 80)) (hHeld.2.alloc (.cells #[.int .i64 v1, .string rl2, .int .i64 sv, .string s3, .int .i64 un] 80))
        go_simp
        refine hK.out _ _ hS8 (fun hHeld2 => ?_)
        clear hK K hHeld hHeld2
        have hHeld := hS8
        clear hS8
        try simp only [Act.put, List.getElem_toArray, List.getElem_cons_succ, List.getElem_cons_zero, List.setIfInBounds_toArray, List.set_cons_zero, List.set_cons_succ]
        refine wpAnyH_ready (rs := [4]) (by kernel_rfl) (by simp) ?_
        refine AllReadyH.cons rfl (fun K hK => ?_) AllReadyH.nil
        obtain ⟨zc, zf, zl⟩ := zo_last (HW9.out.M.step ((Below.refl _ _).alloc (Nat.le_refl _) (.cells #[.int .i64 v1, .string rl2, .int .i64 sv, .string s3, .int .i64 un] 80)))
        go_simp
        refine hK.out _ _ hHeld (fun hHeld2 => ?_)
        clear hK K hHeld2 zc zf zl
        try simp only [Act.put, List.getElem_toArray, List.getElem_cons_succ, List.getElem_cons_zero, List.setIfInBounds_toArray, List.set_cons_zero, List.set_cons_succ]
        refine wpAnyH_ready (rs := [7]) (by kernel_rfl) (by simp) ?_
        refine AllReadyH.cons rfl (fun K hK => ?_) AllReadyH.nil
        have hM1 := HW9.out.M.step ((Below.refl _ _).alloc (Nat.le_refl _) (.cells #[.int .i64 v1, .string rl2, .int .i64 sv, .string s3, .int .i64 un] 80))
        have hzv := HW9.out.h1
        refine step_append_lies _ (by rfl) _ _ _ (by rfl) rd 80 iE _ 5 56 Tryz.underlying73 hiE he0 he1 he2 rfl (by omega) (zoS z) z.eras.length _ (by rfl) (hM1.hE z (by simp)) ⟨v0.heap.size, 0, none⟩ 1 1 (erC (⟨v1, rl2, sv, s3, un⟩ : ErT)) (by rfl) (by rfl) (World.news_of_block (cs := (erC (⟨v1, rl2, sv, s3, un⟩ : ErT)).toArray) (t := 80) (fr := (0, 0)) (heap_alloc_new v0 _)) (by simp [Value.oneCell', erC]) (by omega) (by unfold maxLen; omega) (by omega) (by simp; omega) (v0.heap.size + 1) (by simp) ?_; intro gg cap2 w6 hown1 hgrow hat hlt6
        have hF := Rera_fin (v0 := v0) HW9.out hown1 hgrow hat
        obtain ⟨zc, zf, zl, hb6, hx6, hFin⟩ := hF
        have hX6 := hx6 X #[.int .i64 v1, .string rl2, .int .i64 sv, .string s3, .int .i64 un] hHeld.2 HgE.out
        refine hK.out _ _ ⟨hb6, hX6⟩ (fun hHeld2 => ?_)
        clear hK K hHeld hHeld2
        try simp only [Act.put, List.getElem_toArray, List.getElem_cons_succ, List.getElem_cons_zero, List.setIfInBounds_toArray, List.set_cons_zero, List.set_cons_succ]
        have hHeld := And.intro hb6 hX6
        refine wpAnyH_take (i := 8) (v := ?_) rfl (by kernel_rfl) (by kernel_rfl) (by kernel_rfl) (fun _ _ _ h => h) (Or.inl ⟨by rfl, ?_⟩) hHeld ?_
        rotate_left
        ·intro wq hSw
         go_simp
         try with_reducible rfl
        try simp only [Act.put, List.getElem_toArray, List.getElem_cons_succ, List.getElem_cons_zero, List.setIfInBounds_toArray, List.set_cons_zero, List.set_cons_succ]
        refine wpAnyH_take (i := 9) (v := ?_) rfl (by kernel_rfl) (by kernel_rfl) (by kernel_rfl) (fun _ _ _ h => h) (Or.inl ⟨by rfl, ?_⟩) hHeld ?_
        rotate_left
        ·intro wq hSw
         go_simp
         try with_reducible rfl
        try simp only [Act.put, List.getElem_toArray, List.getElem_cons_succ, List.getElem_cons_zero, List.setIfInBounds_toArray, List.set_cons_zero, List.set_cons_succ]
        refine wpAnyH_ready (rs := [10]) (by kernel_rfl) (by simp) ?_
        refine AllReadyH.cons rfl (fun K hK => ?_) AllReadyH.nil
        have hS8 := And.intro (hFin.L) (hX6.far (a := ⟨Zb, Y.length * 2 + 1, none⟩) (HNX.out) (.slice (some ⟨gg, 0, none⟩) (z.eras.length + 1) cap2))
        go_simp
        refine hK.out _ _ hS8 (fun hHeld2 => ?_)
        clear hK K hHeld hHeld2 hS8
        try simp only [Act.put, List.getElem_toArray, List.getElem_cons_succ, List.getElem_cons_zero, List.setIfInBounds_toArray, List.set_cons_zero, List.set_cons_succ]
        refine wpAnyH_done (by kernel_rfl) ?_ _
        refine NoPanic.normal ?_
        have HFin := Lib.hid (HWb.out.trans hFin)
        clear hFin zc zf zl hb6 hx6 hX6 hown1 hgrow hat hlt6 hM1 HW9 HW HE
        obtain ⟨V7, hV7⟩ : ∃ V, w6.setCell ⟨Zb, Y.length * 2 + 1, none⟩ (.slice (some ⟨gg, 0, none⟩) (z.eras.length + 1) cap2) = V := ⟨_, rfl⟩
        rw [hV7] at HFin ⊢
        clear hV7
        replace HW := HWb
        cases ok with
        | true =>
         have HG2 := Lib.hid (HOk.out.1 rfl)
         have HSn9 := Lib.hid (HSt.out.next (st' := ⟨st.rs, addEra st.zs (eraV F (wordB 32 x)), st.ls, decide ((wordB 32 x).length = 5)⟩) (zs' := (Y ++ [⟨z.name, some ⟨gg, 0, none⟩, cap2, z.eras ++ [eraV F (wordB 32 x)]⟩])) HXx.out HXs.out (Or.inr (Or.inr (Or.inr (Or.inl ⟨HC1.out, ⟨HOp.out, by rw [HN2.out]; exact H45.out, HG2.out⟩, rfl⟩)))) (by rw [← HSt.out.hz]; simp [addEra, zoP]))
         have HWn9 := Lib.hid (show BrW W1 V7 rd rd RV (.slice (some ⟨Zb, 0, none⟩) (Y.length + 1) cz) LV (⟨st.rs, addEra st.zs (eraV F (wordB 32 x)), st.ls, decide ((wordB 32 x).length = 5)⟩ : PbS).rs (Y ++ [⟨z.name, some ⟨gg, 0, none⟩, cap2, z.eras ++ [eraV F (wordB 32 x)]⟩]) (⟨st.rs, addEra st.zs (eraV F (wordB 32 x)), st.ls, decide ((wordB 32 x).length = 5)⟩ : PbS).ls from by rw [HEV.out]; exact HFin.out)
         clear HNI HBn HSt HW HXx HXs
         go_wp2_with fail
         exact ⟨⟨k + 1, ⟨st.rs, addEra st.zs (eraV F (wordB 32 x)), st.ls, decide ((wordB 32 x).length = 5)⟩, RV, (.slice (some ⟨Zb, 0, none⟩) (Y.length + 1) cz), LV, (Y ++ [⟨z.name, some ⟨gg, 0, none⟩, cap2, z.eras ++ [eraV F (wordB 32 x)]⟩]), by omega, by rw [HN2.out, n5b], by go_num, HSn9, HWn9⟩, by simp only [intOf]; omega⟩
        | false =>
         have HNe := Lib.hid (ln_era (F := F) (st := st) HC1.out (fun h => (by have := HOk.out.2 h.2.2; cases this)))
         have HNo := Lib.hid (HNI.out HNe.out)
         have HLo := Lib.hid (HFin.out.L)
         have HT5 := Lib.hid (HBn.out _ HLo.out).1
         have HB5 := Lib.hid (HBn.out _ HLo.out).2
         clear HNI HBn HSt HW HXx HXs
         have tr := HT5.out.frz
         have tl := HT5.out.lt
         have tc := HT5.out.cell
         go_wp2_with fail
         have HF := Lib.hid (bk3 HT5.out (x := .slice none 0 0) (y := .slice none 0 0) (z := .slice none 0 0))
         have HBF := Lib.hid (show Below w.heap.size w (((V7.setCell ⟨w.heap.size, 0, none⟩ (.slice none 0 0)).setCell ⟨w.heap.size, 1, none⟩ (.slice none 0 0)).setCell ⟨w.heap.size, 2, none⟩ (.slice none 0 0)) from below3 HB5.out (Nat.le_refl _))
         obtain ⟨U, hU⟩ : ∃ U, (((V7.setCell ⟨w.heap.size, 0, none⟩ (.slice none 0 0)).setCell ⟨w.heap.size, 1, none⟩ (.slice none 0 0)).setCell ⟨w.heap.size, 2, none⟩ (.slice none 0 0)) = U := ⟨_, rfl⟩
         rw [hU] at HF HBF
         try rw [hU]
         have hf := HF.out.cell
         exact bodyPost_ret (v := .tuple #[.agg #[.slice none 0 0, .slice none 0 0, .slice none 0 0], .int .i64 ((k : Int) + 1), .int .i64 3]) (by simp [results, Tryz.results7, go_sem, hf]) rfl (bp_bad HNo.out HBF.out)
   have t1 : (w0.toList == [114, 117, 108, 101]) = false := by rw [← bw_list.1]; exact str_ne c1
   have t2 : (w0.toList == [122, 111, 110, 101]) = false := by rw [← bw_list.2.1]; exact str_ne c2
   have t3 : (w0.toList == [108, 105, 110, 107]) = false := by rw [← bw_list.2.2.2]; exact str_ne c3
   have t4 : (w0.toList == [101, 114, 97]) = false := by rw [← bw_list.2.2.1]; exact str_ne c4
   have HNn := Lib.hid (line_bad (F := F) (st := st) (s := x) (fun h => c1 (by rw [← HW0.out]; exact h.1)) (fun h => c2 (by rw [← HW0.out]; exact h.1)) (fun h => c3 (by rw [← HW0.out]; exact h.1)) (fun h => c4 (by rw [← HW0.out]; exact h)))
   clear c1 c2 c3 c4
   have HNo := Lib.hid (HNI.out HNn.out)
   have HLo := Lib.hid (HW.out.L)
   have HT5 := Lib.hid (HBn.out _ HLo.out).1
   have HB5 := Lib.hid (HBn.out _ HLo.out).2
   clear HNI HBn HSt HW HXx HXs
   have tr := HT5.out.frz
   have tl := HT5.out.lt
   have tc := HT5.out.cell
   go_wp2_with fail
   have HF := Lib.hid (bk3 HT5.out (x := .slice none 0 0) (y := .slice none 0 0) (z := .slice none 0 0))
   have HBF := Lib.hid (show Below w.heap.size w (((V1.setCell ⟨w.heap.size, 0, none⟩ (.slice none 0 0)).setCell ⟨w.heap.size, 1, none⟩ (.slice none 0 0)).setCell ⟨w.heap.size, 2, none⟩ (.slice none 0 0)) from below3 HB5.out (Nat.le_refl _))
   obtain ⟨U, hU⟩ : ∃ U, (((V1.setCell ⟨w.heap.size, 0, none⟩ (.slice none 0 0)).setCell ⟨w.heap.size, 1, none⟩ (.slice none 0 0)).setCell ⟨w.heap.size, 2, none⟩ (.slice none 0 0)) = U := ⟨_, rfl⟩
   rw [hU] at HF HBF
   try rw [hU]
   have hf := HF.out.cell
   exact bodyPost_ret (v := .tuple #[.agg #[.slice none 0 0, .slice none 0 0, .slice none 0 0], .int .i64 ((k : Int) + 1), .int .i64 3]) (by simp [results, Tryz.results7, go_sem, hf]) rfl (bp_bad HNo.out HBF.out)
  ·obtain rfl : k = L.length := by omega
   have hi2 : ¬ ((L.length : Int) < (L.length : Int)) := by omega
   clear hlt hk
   have HTr := Lib.hid (HBn.out _ HW.out.L).1
   have HBr := Lib.hid (HBn.out _ HW.out.L).2
   have rc := HW.out.R.cell
   have rl := HW.out.R.lt
   clear HBn
   cases op with
   | true =>
    have HI := Lib.hid (show BkIs F s pb0 ((L.length : Int) + 1) 3 from Or.inr (Or.inr ⟨⟨h0, h1⟩, Or.inr ⟨st, by rw [← HLs.out]; exact HSt.out.ran, Or.inl ⟨HOp.out, rfl, by rw [← HLs.out], rfl⟩⟩⟩))
    have tr := HTr.out.frz
    have tl := HTr.out.lt
    have tc := HTr.out.cell
    go_wp2_with fail
    have HF := Lib.hid (bk3 HTr.out (x := .slice none 0 0) (y := .slice none 0 0) (z := .slice none 0 0))
    have HBF := Lib.hid (show Below w.heap.size w (((wr.setCell ⟨w.heap.size, 0, none⟩ (.slice none 0 0)).setCell ⟨w.heap.size, 1, none⟩ (.slice none 0 0)).setCell ⟨w.heap.size, 2, none⟩ (.slice none 0 0)) from below3 HBr.out (Nat.le_refl _))
    obtain ⟨U, hU⟩ : ∃ U, (((wr.setCell ⟨w.heap.size, 0, none⟩ (.slice none 0 0)).setCell ⟨w.heap.size, 1, none⟩ (.slice none 0 0)).setCell ⟨w.heap.size, 2, none⟩ (.slice none 0 0)) = U := ⟨_, rfl⟩
    rw [hU] at HF HBF
    try rw [hU]
    have hf := HF.out.cell
    exact bodyPost_ret (v := .tuple #[.agg #[.slice none 0 0, .slice none 0 0, .slice none 0 0], .int .i64 ((L.length : Int) + 1), .int .i64 3]) (by simp [results, Tryz.results7, go_sem, hf]) rfl (bp_bad HI.out HBF.out)
   | false =>
    have HC := Lib.hid (ref_call HSt.out.g HSt.out.hz HW.out.M)
    go_wp2_with fail
    refine HC.out.mono ?_
    rintro e w6 ⟨rfl, hb⟩
    have HT6 := Lib.hid (HTr.out.step hb)
    have HB6 := Lib.hid (HBr.out.trans (hb.mono HBr.out.size))
    have HM6 := Lib.hid (HW.out.M.step hb)
    have HR6 := Lib.hid (HW.out.R.step hb)
    clear hb rc rl HC HW HTr HBr
    obtain ⟨ce, hce⟩ : ∃ ce, chkE st = ce := ⟨_, rfl⟩
    have HCe := Lib.hid hce
    rw [hce]
    clear hce
    have tr := HT6.out.frz
    have tl := HT6.out.lt
    have tc := HT6.out.cell
    by_cases h3 : ce = 0
    ·have HI := Lib.hid (show BkIs F s st 0 0 from Or.inr (Or.inr ⟨⟨h0, h1⟩, Or.inr ⟨st, by rw [← HLs.out]; exact HSt.out.ran, Or.inr (Or.inr ⟨HOp.out, HCe.out.trans h3, rfl, rfl, rfl⟩)⟩⟩))
     subst h3
     obtain ⟨AR, cR, rfl⟩ := sl_form HM6.out.hR
     obtain ⟨AZ, cZ, rfl⟩ := sl_form HM6.out.hZ
     obtain ⟨AL, cL, rfl⟩ := sl_form HM6.out.hL
     have rc := HR6.out.cell
     have rl := HR6.out.lt
     go_wp2_with fail
     have HF := Lib.hid (bk3 HT6.out (x := .slice AR st.rs.length cR) (y := .slice AZ zs.length cZ) (z := .slice AL st.ls.length cL))
     have HBF := Lib.hid (show Below w.heap.size w (((w6.setCell ⟨w.heap.size, 0, none⟩ (.slice AR st.rs.length cR)).setCell ⟨w.heap.size, 1, none⟩ (.slice AZ zs.length cZ)).setCell ⟨w.heap.size, 2, none⟩ (.slice AL st.ls.length cL)) from below3 HB6.out (Nat.le_refl _))
     have HM7 := Lib.hid (pbm3 HM6.out HT6.out (.slice AR st.rs.length cR) (.slice AZ zs.length cZ) (.slice AL st.ls.length cL))
     obtain ⟨U, hU⟩ : ∃ U, (((w6.setCell ⟨w.heap.size, 0, none⟩ (.slice AR st.rs.length cR)).setCell ⟨w.heap.size, 1, none⟩ (.slice AZ zs.length cZ)).setCell ⟨w.heap.size, 2, none⟩ (.slice AL st.ls.length cL)) = U := ⟨_, rfl⟩
     rw [hU] at HF HBF HM7
     try rw [hU]
     have hf := HF.out.cell
     exact bodyPost_ret (v := .tuple #[.agg #[.slice AR st.rs.length cR, .slice AZ zs.length cZ, .slice AL st.ls.length cL], .int .i64 0, .int .i64 0]) (by simp [results, Tryz.results7, go_sem, hf]) rfl (bp_good HI.out HSt.out.g HSt.out.hz HM7.out HBF.out)
    ·have h3' : (ce != 0) = true := bne_iff_ne.2 h3
     have HI := Lib.hid (show BkIs F s pb0 0 ce from Or.inr (Or.inr ⟨⟨h0, h1⟩, Or.inr ⟨st, by rw [← HLs.out]; exact HSt.out.ran, Or.inr (Or.inl ⟨HOp.out, by rw [HCe.out]; exact h3, rfl, rfl, HCe.out.symm⟩)⟩⟩))
     clear h3
     go_wp2_with fail
     have HF := Lib.hid (bk3 HT6.out (x := .slice none 0 0) (y := .slice none 0 0) (z := .slice none 0 0))
     have HBF := Lib.hid (show Below w.heap.size w (((w6.setCell ⟨w.heap.size, 0, none⟩ (.slice none 0 0)).setCell ⟨w.heap.size, 1, none⟩ (.slice none 0 0)).setCell ⟨w.heap.size, 2, none⟩ (.slice none 0 0)) from below3 HB6.out (Nat.le_refl _))
     obtain ⟨U, hU⟩ : ∃ U, (((w6.setCell ⟨w.heap.size, 0, none⟩ (.slice none 0 0)).setCell ⟨w.heap.size, 1, none⟩ (.slice none 0 0)).setCell ⟨w.heap.size, 2, none⟩ (.slice none 0 0)) = U := ⟨_, rfl⟩
     rw [hU] at HF HBF
     try rw [hU]
     have hf := HF.out.cell
     exact bodyPost_ret (v := .tuple #[.agg #[.slice none 0 0, .slice none 0 0, .slice none 0 0], .int .i64 0, .int .i64 ce]) (by simp [results, Tryz.results7, go_sem, hf]) rfl (bp_bad HI.out HBF.out)
theorem r_BookParse (F : Rdr) (s : ByteArray) (w : World) : Calls Tryz.prog 7 #[.string s] w (BpPost F s w) := by
 by_cases h : 60000 < s.size ∨ s.size = 0
 ·exact r_BookParse_short F s w h
 ·exact r_BookParse_long F s w (by omega) (by omega)
end Go.Proofs.YthppifcggmdmoaaGreatDoor

