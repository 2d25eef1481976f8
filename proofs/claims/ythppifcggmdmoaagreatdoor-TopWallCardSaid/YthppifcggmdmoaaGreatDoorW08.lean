/- Part 8 of the proof of TopWall: no condition; what its declarations say stands at each. -/
import Derived.Test.YthppifcggmdmoaaGreatDoorW06
import Derived.Test.YthppifcggmdmoaaGreatDoorW07
import Derived.Test.YthppifcggmdmoaaGreatDoorW02
import Derived.Lib.SplitLaws
import Derived.Lib.AtoiErrMem
namespace Go.Proofs.YthppifcggmdmoaaGreatDoor
open Go.RowKit
set_option linter.unusedVariables false
theorem countB_one (s : ByteArray) (c : UInt8) : Lib.countB s ⟨#[c]⟩ = s.data.toList.count c := Lib.count_one c s.data.toList
theorem genSplit_one (s : ByteArray) (c : UInt8) (hs : s.size < 4294967281) (w : World) :
  Calls Tryz.prog 52 #[.string s, .string ⟨#[c]⟩, .int .i64 0, .int .i64 (-1)] w fun e w' => ∃ ws : List ByteArray, ws.map (·.data.toList) = lSplit c s.data.toList ∧ e = .returned (.slice (some ⟨w.heap.size, 0, none⟩) ws.length ws.length) ∧ w' = w.alloc (.cells (ws.map Value.string).toArray 9) := by
 have hle := Lib.countB_le ⟨#[c]⟩ (Nat.le_refl 1) s.size s (Nat.le_refl _)
 have hlen := Lib.splitB_all ⟨#[c]⟩ (Nat.le_refl 1) 0 _ s rfl
 have hI : ∀ (x : ByteArray) (cs : Array Value), x.size ≤ s.size → Calls Tryz.prog 91 #[.string x, .string ⟨#[c]⟩] (w.alloc (.cells cs 9)) fun e w' => e = .returned (.int .i64 (Lib.indexB x ⟨#[c]⟩)) ∧ w' = w.alloc (.cells cs 9) := by
  intro x cs _
  rw [index_one]
  exact Tryz.strings_Index_one x c _
 have hC : Calls Tryz.prog 90 #[.string s, .string ⟨#[c]⟩] w fun e w' => e = .returned (.int .i64 (Lib.countB s ⟨#[c]⟩)) ∧ w' = w := by
  rw [countB_one]
  exact Tryz.strings_Count_one s c w
 have C := Any.strings_genSplit_core Tryz.lays221 (by kernel_rfl) s ⟨#[c]⟩ 0 (-1) (Lib.countB s ⟨#[c]⟩ + 1) w hs (Nat.le_refl 1) (Nat.zero_le _) hI hC (by decide) (by decide) (by rw [if_pos (by decide)]; omega)
 rw [Nat.add_sub_cancel, hlen] at C
 refine C.mono ?_
 rintro e w' ⟨rfl, rfl⟩
 refine ⟨Lib.splitB ⟨#[c]⟩ 0 (Lib.countB s ⟨#[c]⟩) s, splitB_one c _ s (countB_one s c).symm, by rw [hlen], ?_⟩
 rw [← Lib.cellsOf_full, hlen]
 rfl
theorem split_one (s : ByteArray) (c : UInt8) (hs : s.size < 4294967281) (w : World) :
  Calls Tryz.prog 20 #[.string s, .string ⟨#[c]⟩] w fun e w' => ∃ ws : List ByteArray, ws.map (·.data.toList) = lSplit c s.data.toList ∧ e = .returned (.slice (some ⟨w.heap.size, 0, none⟩) ws.length ws.length) ∧ w' = w.alloc (.cells (ws.map Value.string).toArray 9) := by
 go_enter Tryz.func20, Tryz.ntmps20
 go_wp2_with fail
 refine (genSplit_one s c hs _).mono ?_
 rintro e w1 ⟨ws, h1, rfl, rfl⟩
 go_wp2_with fail
 go_ret
 exact ⟨ws, h1, rfl, rfl⟩
theorem atoi_any (s : ByteArray) (hs : s.size ≤ 281474976710656) (te te2 : TypeId) (pe pe2 : Value) (w : World) (h1 : w.cell? ⟨4, 0, none⟩ = some (.iface te pe)) (h2 : w.cell? ⟨5, 0, none⟩ = some (.iface te2 pe2)) :
  Calls Tryz.prog 92 #[.string s] w fun e w' => ∃ er, e = .returned (.tuple #[.int .i64 (atV s.data.toList), er]) ∧ Below w.heap.size w w' := by
 cases h : Lib.atoiAll s.data.toList with
 | ok v =>
  refine (Tryz.strconv_Atoi_ok s (by omega) v h w).mono ?_
  rintro e w' ⟨rfl, h⟩
  rw [atV, ‹Lib.atoiAll s.data.toList = _›]
  refine ⟨_, rfl, ?_⟩
  rcases h with rfl | ⟨t, rfl⟩
  ·exact Below.refl _ _
  ·exact Lib.bytesWorld_below _ _ _
 | «syntax» =>
  refine (Tryz.strconv_Atoi_syntax s hs h _ w h1 (Or.inr ⟨te, pe, rfl⟩)).mono ?_
  rintro e w' ⟨N, rfl, _, _, hb⟩
  rw [atV, h]
  exact ⟨_, rfl, hb⟩
 | range =>
  refine (Tryz.strconv_Atoi_range s hs h _ w h2 (Or.inr ⟨te2, pe2, rfl⟩)).mono ?_
  rintro e w' ⟨N, rfl, _, _, hb⟩
  rw [atV, h]
  exact ⟨_, rfl, hb⟩
end Go.Proofs.YthppifcggmdmoaaGreatDoor

namespace Go.Proofs.YthppifcggmdmoaaGreatDoor
open Go.RowKit
set_option linter.unusedVariables false
theorem lSplit_len (c : UInt8) : ∀ (l : List UInt8), ∀ w ∈ lSplit c l, w.length ≤ l.length
 | [], w, h => by simp [lSplit] at h; simp [h]
 | b :: l, w, h => by
  have ih := lSplit_len c l
  rw [lSplit] at h
  split at h
  ·rcases List.mem_cons.1 h with rfl | h
   ·simp
   ·have := ih w h; simp; omega
  ·split at h
   ·rename_i e; exact absurd e (lSplit_ne c l)
   ·rename_i v r e
    rcases List.mem_cons.1 h with rfl | h
    ·have := ih v (by rw [e]; simp); simp; omega
    ·have := ih w (by rw [e]; simp [h]); simp; omega
theorem lSplit_many (c : UInt8) : ∀ (l : List UInt8), (lSplit c l).length ≤ l.length + 1
 | [] => by simp [lSplit]
 | b :: l => by
  have ih := lSplit_many c l
  rw [lSplit]
  split
  ·simp; omega
  ·split
   ·simp
   ·rename_i v r e
    rw [e] at ih
    simp at ih ⊢
    omega
theorem str_ne {a b : ByteArray} (h : ¬ a = b) : (a.toList == b.toList) = false := by
 rw [beq_eq_false_iff_ne]
 intro e
 rw [Lib.toList_data, Lib.toList_data] at e
 exact h (ByteArray.ext (Array.toList_inj.1 e))
theorem w64 (n : Int) (h : -9223372036854775808 ≤ n ∧ n ≤ 9223372036854775807) : wrap64 n = n := by unfold wrap64; omega
theorem rd_step {L : List (List UInt8)} {m k c : Nat} {x v : Int} (G : GoodW L m) (hk : k < L.length) (hx : x = accW L k) (hv : atV (L.getD k []) = v) (hc : cf k = c) : wrap64 (x + wrap64 (min v 1000 * (c : Int))) = accW L (k + 1) := by
 have h1 := G.at hk
 have h2 := G.val k hk
 have h3 := accW_le L (show k + 1 ≤ L.length by omega)
 rw [G.sum] at h3
 have h6 : accW L (k + 1) = accW L k + dgV (L.getD k []) * cf k := rfl
 rw [hc] at h6
 have h9 : accW L (k + 1) ≤ 604800 := Nat.le_trans h3 G.max
 clear h3 G
 rw [h1] at hv
 subst hv hx
 clear h1 hc hk
 generalize dgV (L.getD k []) = d at *
 generalize accW L (k + 1) = q at *
 generalize accW L k = p at *
 have h7 : min (d : Int) 1000 = d := by omega
 rw [h7]
 have h8 : (d : Int) * (c : Int) = ((d * c : Nat) : Int) := by simp
 rw [h8]
 generalize d * c = y at *
 rw [w64 (y : Int) (by omega), w64 _ (by omega)]
 omega
theorem rd_fin {s : ByteArray} {L : List (List UInt8)} {ng : Bool} {y : Int} (HG : ∀ n, spOk n = true → spV n = s → ∃ m : Nat, GoodW L m ∧ n = sgnV ng m) (hy : (∃ m, GoodW L m) → y = sgnV ng (accW L L.length : Nat)) (h : spOk y = true → spV y ≠ s) : RdIs s 0 3 := by
 refine Or.inr ⟨fun n ho e => ?_, rfl, rfl⟩
 obtain ⟨m, G, hn⟩ := HG n ho e
 have h1 := hy ⟨m, G⟩
 rw [G.sum, ← hn] at h1
 rw [← h1] at ho e
 exact h ho e
theorem span_any (n : Int) (w : World) (HI : ∀ h, h < 1000000 → ItoaIn w h) :
  Calls Tryz.prog 141 #[.int .i64 n] w fun e w' => ∃ u er, e = .returned (.tuple #[.string u, .int .i64 er]) ∧ ((spOk n = true ∧ u = spV n ∧ er = 0) ∨ (spOk n = false ∧ er = 1)) ∧ Below w.heap.size w w' := by
 cases h : spOk n with
 | true =>
  have h2 := spOk_iff.1 h
  refine (k_Span n w (HI _ (by omega))).mono ?_
  rintro e w' ⟨rfl, hb⟩
  exact ⟨_, _, rfl, Or.inl ⟨rfl, rfl, by rw [spE, if_pos h]⟩, hb⟩
 | false =>
  refine (k_Span_no n h w).mono ?_
  rintro e w' ⟨rfl, hb⟩
  exact ⟨_, _, rfl, Or.inr ⟨rfl, by first | rfl | simp [spE, h]⟩, hb⟩
set_option maxRecDepth 100000 in
set_option maxHeartbeats 2000000 in
theorem k_ReadSpan (s : ByteArray) (hs : s.size < 4294967281) (te te2 : TypeId) (pe pe2 : Value) (w : World) (h1 : w.cell? ⟨4, 0, none⟩ = some (.iface te pe)) (h2 : w.cell? ⟨5, 0, none⟩ = some (.iface te2 pe2)) (HI : ∀ h, h < 1000000 → ItoaIn w h) :
  Calls Tryz.prog 95 #[.string s] w fun e w' => ∃ a b, e = .returned (.tuple #[.int .i64 a, .int .i64 b]) ∧ RdIs s a b ∧ Below w.heap.size w w' := by
 have HG := Lib.hid (show ∀ n, spOk n = true → spV n = s → ∃ m, GoodW (wordsOf s) m ∧ n = sgnV (negOf s) m from fun n ho e => by rw [← e]; exact rd_good ho)
 have H1 := Lib.hid h1
 have H2 := Lib.hid h2
 have HTT := Lib.hid HI
 clear h1 h2 HI
 obtain ⟨t, ht⟩ : ∃ t : ByteArray, (⟨(Lib.trimPrefix s.data.toList (⟨#[45]⟩ : ByteArray).data.toList).toArray⟩ : ByteArray) = t := ⟨_, rfl⟩
 have ht2 : lSplit 58 t.data.toList = wordsOf s := by rw [← ht]; rfl
 have ht3 : t.size ≤ s.size := by
  rw [← ht]
  show (Lib.trimPrefix s.data.toList [45]).toArray.size ≤ s.data.size
  unfold Lib.trimPrefix
  split <;> simp
 obtain ⟨ng, hng⟩ : ∃ b, Lib.hasPrefix s.data.toList (⟨#[45]⟩ : ByteArray).data.toList = b := ⟨_, rfl⟩
 have HNG := Lib.hid (show negOf s = ng from hng)
 obtain ⟨L, hL⟩ : ∃ L, wordsOf s = L := ⟨_, rfl⟩
 rw [hL] at HG ht2
 rw [HNG.out] at HG
 go_enter Tryz.func95, Tryz.ntmps95
 go_wp2_with fail
 refine (Tryz.strings_CutPrefix s ⟨#[45]⟩ _).mono ?_
 rintro e w' ⟨rfl, rfl⟩
 rw [ht, hng]
 clear ht hng
 go_wp2_with fail
 refine (split_one t 58 (by omega) _).mono ?_
 rintro e w1 ⟨ws, hws, rfl, rfl⟩
 rw [ht2] at hws
 have hlen := Lib.hid (show ws.length = L.length by rw [← hws, List.length_map])
 have HW := Lib.hid (show ∀ k (h : k < ws.length), L.getD k [] = (ws[k]).data.toList from fun k h => by rw [← hws]; simp [List.getD, h])
 have HSZ := Lib.hid (show ∀ k (h : k < ws.length), (ws[k]).size ≤ s.size from fun k h => by
  have h1 := lSplit_len 58 t.data.toList (ws[k]).data.toList (by rw [ht2, ← hws]; exact List.mem_map.2 ⟨ws[k], List.getElem_mem h, rfl⟩)
  have e1 : (ws[k]).size = (ws[k]).data.toList.length := Lib.size_eq _
  have e2 : t.size = t.data.toList.length := Lib.size_eq _
  omega)
 have hwl : ws.length ≤ 4294967281 := by
  have h1 := lSplit_many 58 t.data.toList
  have e1 : ws.length = (lSplit 58 t.data.toList).length := by rw [ht2, ← hws, List.length_map]
  have e2 : t.size = t.data.toList.length := Lib.size_eq _
  omega
 clear hws ht2
 have HB := Lib.hid ((Below.refl w'.heap.size w').alloc (Nat.le_refl _) (.cells (ws.map Value.string).toArray 9))
 have HX := Lib.hid (Blk.new w' (ws.map Value.string).toArray 9)
 obtain ⟨W1, hW1⟩ : ∃ W, w'.alloc (.cells (ws.map Value.string).toArray 9) = W := ⟨_, rfl⟩
 rw [hW1] at HB HX
 rw [hW1]
 clear hW1
 go_wp2_with fail
 go_loopw [6, 21] (fun n i wr => ∃ (k : Nat) (x : Int), k ≤ ws.length ∧ i = .int .i64 k ∧ n = .int .i64 x ∧ ((∃ m, GoodW L m) → x = accW L k) ∧ Below w'.heap.size w' wr ∧ Blk wr w'.heap.size 9 (ws.map Value.string).toArray) (fun _ i _ => ws.length - (intOf i).toNat)
 case atStart => exact ⟨0, 0, by omega, rfl, rfl, fun _ => rfl, HB.out, HX.out⟩
 case round =>
  clear HB HX
  obtain ⟨k, x, hk, rfl, rfl, hx, hB, hX⟩ := hrel
  have HB := Lib.hid hB
  have HX := Lib.hid hX
  have HXX := Lib.hid hx
  clear hB hX hx
  by_cases hlt : k < ws.length
  ·have c0 : wr.cell? ⟨w'.heap.size, k, none⟩ = some (.string ws[k]) := by rw [HX.out.cell]; simp [hlt]
   have hl0 := HX.out.lt
   have HK := Lib.hid (HW.out k hlt)
   have hsz := HSZ.out k hlt
   obtain ⟨wd, hwd⟩ : ∃ b, ws[k] = b := ⟨_, rfl⟩
   rw [hwd] at HK c0 hsz
   clear hwd
   have v1 : wr.cell? ⟨4, 0, none⟩ = some (.iface te pe) := (HB.out.cell (show (⟨4, 0, none⟩ : Addr).block < w'.heap.size from Lib.lt_of_cell H1.out)).trans H1.out
   have v2 : wr.cell? ⟨5, 0, none⟩ = some (.iface te2 pe2) := (HB.out.cell (show (⟨5, 0, none⟩ : Addr).block < w'.heap.size from Lib.lt_of_cell H2.out)).trans H2.out
   have HA := Lib.hid (atoi_any wd (by omega) te te2 pe pe2 wr v1 v2)
   clear v1 v2
   obtain ⟨v, hv⟩ : ∃ v, atV wd.data.toList = v := ⟨_, rfl⟩
   rw [hv] at HA
   replace hv := Lib.hid hv
   have hi1 : (0 : Int) ≤ (k : Int) := by omega
   have hi2 : (k : Int) < (ws.length : Int) := by omega
   go_wp2_with fail
   refine HA.out.mono ?_
   rintro e w2 ⟨er, rfl, hb⟩
   replace HX := Lib.hid (HX.out.step hb)
   replace HB := Lib.hid (HB.out.trans (hb.mono HB.out.size))
   clear hb HA c0 hl0
   rcases (show k = 0 ∨ k = 1 ∨ k = 2 ∨ 3 ≤ k by omega) with rfl | rfl | rfl | h3
   ·have m1 : min (0 : Int) 3 = 0 := rfl
    go_wp2_with fail
    refine ⟨⟨1, _, by omega, by go_num, rfl, fun ⟨m, G⟩ => ?_, HB.out.alloc HB.out.size _, HX.out.alloc _⟩, by simp only [intOf]; omega⟩
    have e := rd_step (k := 0) (v := v) G (by rw [← hlen.out]; omega) (HXX.out ⟨m, G⟩) (by rw [HK.out]; exact hv.out) (c := 3600) rfl
    simpa using e
   ·have m1 : min (1 : Int) 3 = 1 := rfl
    go_wp2_with fail
    refine ⟨⟨2, _, by omega, by go_num, rfl, fun ⟨m, G⟩ => ?_, HB.out.alloc HB.out.size _, HX.out.alloc _⟩, by simp only [intOf]; omega⟩
    have e := rd_step (k := 1) (v := v) G (by rw [← hlen.out]; omega) (HXX.out ⟨m, G⟩) (by rw [HK.out]; exact hv.out) (c := 60) rfl
    simpa using e
   ·have m1 : min (2 : Int) 3 = 2 := rfl
    go_wp2_with fail
    refine ⟨⟨3, _, by omega, by go_num, rfl, fun ⟨m, G⟩ => ?_, HB.out.alloc HB.out.size _, HX.out.alloc _⟩, by simp only [intOf]; omega⟩
    have e := rd_step (k := 2) (v := v) G (by rw [← hlen.out]; omega) (HXX.out ⟨m, G⟩) (by rw [HK.out]; exact hv.out) (c := 1) rfl
    simpa using e
   ·have m1 : min (k : Int) 3 = 3 := by omega
    go_wp2_with fail
    refine ⟨⟨k + 1, _, by omega, by go_num, rfl, fun ⟨m, G⟩ => ?_, HB.out.alloc HB.out.size _, HX.out.alloc _⟩, by simp only [intOf]; omega⟩
    have := G.len
    rw [← hlen.out] at this
    omega
  ·obtain rfl : k = ws.length := by omega
   have HT := Lib.hid (fun (n : Int) => span_any n wr (fun h hh => (HTT.out h hh).on HB.out))
   have HF := Lib.hid (fun (y : Int) hy h => rd_fin (s := s) (L := L) (ng := ng) (y := y) HG.out hy h)
   have HL := Lib.hid (show (∃ m, GoodW L m) → x = (accW L L.length : Nat) from fun h => by rw [← hlen.out]; exact HXX.out h)
   cases ng
   ·have HY := Lib.hid (show (∃ m, GoodW L m) → x = sgnV false (accW L L.length : Nat) from HL.out)
    go_wp2_with fail
    refine (HT.out _).mono ?_
    rintro e w2 ⟨u, er, rfl, ho, hb⟩
    replace HB := Lib.hid (HB.out.trans (hb.mono HB.out.size))
    clear hb HT
    rcases ho with ⟨ho, rfl, rfl⟩ | ⟨ho, rfl⟩
    ·by_cases hs2 : spV x = s
     ·have hd : ((spV x).toList == s.toList) = true := by rw [hs2]; exact beq_self_eq_true _
      go_wp2_with fail
      go_ret2
      exact ⟨_, _, rfl, Or.inl ⟨ho, hs2, rfl⟩, HB.out⟩
     ·have hd : ((spV x).toList == s.toList) = false := str_ne hs2
      have HR := Lib.hid (HF.out _ HY.out (fun _ => hs2))
      go_wp2_with fail
      go_ret2
      exact ⟨_, _, rfl, HR.out, HB.out⟩
    ·have HR := Lib.hid (HF.out _ HY.out (fun h => absurd (ho.symm.trans h) (by decide)))
     go_wp2_with fail
     go_ret2
     exact ⟨_, _, rfl, HR.out, HB.out⟩
   ·have HY := Lib.hid (show (∃ m, GoodW L m) → wrap64 (-x) = sgnV true (accW L L.length : Nat) from fun h => by
     have h1 := HL.out h
     obtain ⟨m, G⟩ := h
     have h2 := G.sum
     have h3 := G.max
     rw [h1, w64 _ (by omega)]
     rfl)
    go_wp2_with fail
    refine (HT.out _).mono ?_
    rintro e w2 ⟨u, er, rfl, ho, hb⟩
    replace HB := Lib.hid (HB.out.trans (hb.mono HB.out.size))
    clear hb HT
    rcases ho with ⟨ho, rfl, rfl⟩ | ⟨ho, rfl⟩
    ·by_cases hs2 : spV (wrap64 (-x)) = s
     ·have hd : ((spV (wrap64 (-x))).toList == s.toList) = true := by rw [hs2]; exact beq_self_eq_true _
      go_wp2_with fail
      go_ret2
      exact ⟨_, _, rfl, Or.inl ⟨ho, hs2, rfl⟩, HB.out⟩
     ·have hd : ((spV (wrap64 (-x))).toList == s.toList) = false := str_ne hs2
      have HR := Lib.hid (HF.out _ HY.out (fun _ => hs2))
      go_wp2_with fail
      go_ret2
      exact ⟨_, _, rfl, HR.out, HB.out⟩
    ·have HR := Lib.hid (HF.out _ HY.out (fun h => absurd (ho.symm.trans h) (by decide)))
     go_wp2_with fail
     go_ret2
     exact ⟨_, _, rfl, HR.out, HB.out⟩
end Go.Proofs.YthppifcggmdmoaaGreatDoor

