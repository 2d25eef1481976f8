/- Part 22 of the proof of TopWall: no condition; what its declarations say stands at each. -/
import Derived.Test.YthppifcggmdmoaaGreatDoorW21
import Derived.Test.YthppifcggmdmoaaGreatDoorW08
import Derived.RegionTactic
import Derived.Maps.RangeWalk
import Derived.Maps.OwnSet
namespace Go.Proofs.YthppifcggmdmoaaGreatDoor
open Go.RowKit
set_option linter.unusedVariables false
theorem grown_of_below {w w' : World} (hb : Below w.heap.size w w') : w.grownBy w' none := ⟨hb.os, hb.tape, hb.output, hb.size, fun k hk _ => hb.block k hk⟩
theorem grown_set (w : World) (a : Addr) (v : Value) : w.grownBy (w.setCell a v) (some a.block) :=
 ⟨rfl, rfl, rfl, by simp, fun k _ hk => Below.heap_setCell _ _ _ _ (fun e => hk (by rw [e]))⟩
def RQ (v : Value) : Option (DataW Value × List MemPlace) := some (.held v, [])
theorem keyI : Maps.Keyed Tryz.prog 3 := Maps.int_keyed Tryz.underlying3
def sgnD : DataW Value := ((DataW.map []).put (.int .i64 3) (.held (.string ⟨#[62, 61]⟩))).put (.int .i64 4) (.held (.string ⟨#[60, 61]⟩))
theorem sgnD_at {x : Int} {c : Value} (h : ∀ zd, sgnD.atKey (.int .i64 x) zd = .held c) : (x = 3 ∧ c = .string ⟨#[62, 61]⟩) ∨ (x = 4 ∧ c = .string ⟨#[60, 61]⟩) := by
 have e : sgnD = .map [(.int .i64 3, .held (.string ⟨#[62, 61]⟩)), (.int .i64 4, .held (.string ⟨#[60, 61]⟩))] := rfl
 rw [e] at h
 by_cases h3 : x = 3
 ·subst h3
  have h1 := h .nil
  exact Or.inl ⟨rfl, by simpa [DataW.atKey, Lit.sameKey] using h1.symm⟩
 ·by_cases h4 : x = 4
  ·subst h4
   have h1 := h .nil
   exact Or.inr ⟨rfl, by simpa [DataW.atKey, Lit.sameKey] using h1.symm⟩
  ·have h1 := h .nil
   have h5 : ¬ (3 : Int) = x := fun e => h3 e.symm
   have h6 : ¬ (4 : Int) = x := fun e => h4 e.symm
   simp [DataW.atKey, Lit.sameKey, h5, h6] at h1
def restL (k n : Int) : List UInt8 := if k = 2 then [48] else digL n
def RyI (s : ByteArray) (left : Lit → Bool) (a b : Int) (r : ByteArray) : Prop :=
 ∀ k wd n, dcOk k wd n = true → dtV k wd n = s → (k ≤ 2 ∨ left (.int .i64 k) = false) → a = k ∧ b = wd ∧ r.data.toList = restL k n
theorem back_arr (l : List UInt8) : (⟨l.toArray⟩ : ByteArray).data.toList = l := by simp
theorem dt_list {s : ByteArray} {k wd n : Int} (h : dcOk k wd n = true) (e : dtV k wd n = s) : s.data.toList = dtL k wd n := by rw [← e]; exact dtL_eq h
theorem wk_arr {wd : Int} (h : 0 ≤ wd ∧ wd ≤ 6) : Lib.idxOfS dayB ⟨(wordL wd).toArray⟩ = wd := wkI_word h
theorem ry_plain {s : ByteArray} {left : Lit → Bool} (hl : ∀ k, k = 3 ∨ k = 4 → left (.int .i64 k) = true) (hp : Lib.hasPrefix s.data.toList [108, 97, 115, 116] = false) : RyI s left 1 0 s := by
 intro k wd n h e hk
 have a := dcOk_iff.1 h
 have e2 := dt_list h e
 rcases (day_cases h).1 with rfl | rfl | rfl | rfl
 ·refine ⟨rfl, by omega, ?_⟩
  rw [e2]; rfl
 ·have := ((pre_last h).1 rfl).1
  rw [← e2, hp] at this; cases this
 ·rcases hk with hk | hk
  ·omega
  ·rw [hl 3 (Or.inl rfl)] at hk; cases hk
 ·rcases hk with hk | hk
  ·omega
  ·rw [hl 4 (Or.inr rfl)] at hk; cases hk
theorem ry_last {s : ByteArray} {left : Lit → Bool} (hp : Lib.hasPrefix s.data.toList [108, 97, 115, 116] = true) : RyI s left 2 (Lib.idxOfS dayB ⟨(Lib.trimPrefix s.data.toList [108, 97, 115, 116]).toArray⟩) ⟨#[48]⟩ := by
 intro k wd n h e hk
 have a := dcOk_iff.1 h
 have e2 := dt_list h e
 have hk2 : k = 2 := by
  refine Classical.byContradiction fun q => ?_
  have := (pre_last h).2 q
  rw [← e2, hp] at this; cases this
 subst hk2
 refine ⟨rfl, ?_, rfl⟩
 rw [e2, ((pre_last h).1 rfl).2]
 exact wk_arr (by omega)
theorem ry_no {s : ByteArray} {left left' : Lit → Bool} {a b x : Int} {r : ByteArray} {sg : List UInt8} (H : RyI s left a b r) (hl : ∀ z, left' z = (left z && !z.sameKey (.int .i64 x))) (hx : (x = 3 ∧ sg = [62, 61]) ∨ (x = 4 ∧ sg = [60, 61]))
  (hq : (Lib.cut s.data.toList sg).2.2 = false) : RyI s left' a b r := by
 intro k wd n h e hk
 have e2 := dt_list h e
 refine H k wd n h e ?_
 rcases hk with hk | hk
 ·exact Or.inl hk
 ·rw [hl] at hk
  cases hh : left (.int .i64 k) with
  | false => exact Or.inr rfl
  | true =>
   rw [hh] at hk
   have hkx : k = x := by
    simp [Lit.sameKey] at hk
    exact hk
   exfalso
   rcases hx with ⟨rfl, rfl⟩ | ⟨rfl, rfl⟩
   ·have := (cut_ge h).1 hkx
    rw [← e2] at this
    rw [this] at hq; cases hq
   ·have := (cut_le h).1 hkx
    rw [← e2] at this
    rw [this] at hq; cases hq
theorem ry_yes {s : ByteArray} {left' : Lit → Bool} {x : Int} {sg q1 q2 : List UInt8} (hx : (x = 3 ∧ sg = [62, 61]) ∨ (x = 4 ∧ sg = [60, 61])) (hq : Lib.cut s.data.toList sg = (q1, q2, true)) :
  RyI s left' x (Lib.idxOfS dayB ⟨q1.toArray⟩) ⟨q2.toArray⟩ := by
 intro k wd n h e hk
 have a := dcOk_iff.1 h
 have e2 := dt_list h e
 have hkx : k = x := by
  refine Classical.byContradiction fun q => ?_
  rcases hx with ⟨rfl, rfl⟩ | ⟨rfl, rfl⟩
  ·have := (cut_ge h).2 q
   rw [← e2, hq] at this; cases this
  ·have := (cut_le h).2 q
   rw [← e2, hq] at this; cases this
 have hc : Lib.cut (dtL k wd n) sg = (wordL wd, digL n, true) := by
  rcases hx with ⟨rfl, rfl⟩ | ⟨rfl, rfl⟩
  ·exact (cut_ge h).1 hkx
  ·exact (cut_le h).1 hkx
 rw [e2, hc] at hq
 simp only [Prod.mk.injEq] at hq
 obtain ⟨rfl, rfl, _⟩ := hq
 refine ⟨hkx.symm, wk_arr (by omega), ?_⟩
 rw [restL, if_neg (by omega)]
theorem cut_len (l sg : List UInt8) : (Lib.cut l sg).2.1.length ≤ l.length := by
 unfold Lib.cut
 split <;> simp
theorem ry_end {s : ByteArray} {left : Lit → Bool} {a b : Int} {r : ByteArray} (H : RyI s left a b r) (hl : ∀ z, left z = false) (k wd n : Int) (h : dcOk k wd n = true) (e : dtV k wd n = s) : a = k ∧ b = wd ∧ atV r.data.toList = n := by
 obtain ⟨h1, h2, h3⟩ := H k wd n h e (Or.inr (hl _))
 have a := dcOk_iff.1 h
 refine ⟨h1, h2, ?_⟩
 rw [h3, restL]
 split
 ·have : n = 0 := by omega
  rw [this]; rfl
 ·exact digL_val (by omega)
theorem ry_bad {s : ByteArray} {a b c : Int} (H : ∀ k wd n, dcOk k wd n = true → dtV k wd n = s → a = k ∧ b = wd ∧ c = n) (h : dcOk a b c = true → dtV a b c ≠ s) : RdDy s 0 0 0 3 := by
 refine Or.inr ⟨fun k wd n hd e => ?_, rfl, rfl, rfl, rfl⟩
 obtain ⟨rfl, rfl, rfl⟩ := H k wd n hd e
 exact h hd e
set_option maxRecDepth 100000 in
set_option maxHeartbeats 8000000 in
theorem d_Read (s : ByteArray) (hs : s.size < 4294967281) (w : World) (X : RdX w) :
  Calls Tryz.prog 93 #[.string s] w fun e w' => ∃ k wd n er, e = .returned (.tuple #[.agg #[.int .i64 k, .int .i64 wd, .int .i64 n], .int .i64 er]) ∧ RdDy s k wd n er ∧ Below w.heap.size w w' := by
 have HX := Lib.hid X
 clear X
 go_enter Tryz.func93, Tryz.ntmps93
 go_upto_region 3 with fail
 have HF := Lib.hid ((Blk.new w #[.int .i64 0, .int .i64 0, .int .i64 0] 68).alloc (.cells #[.int .i64 1, .int .i64 0, .int .i64 0] 68))
 have HD := Lib.hid (Blk.new' (w.alloc (.cells #[.int .i64 0, .int .i64 0, .int .i64 0] 68)) #[.int .i64 1, .int .i64 0, .int .i64 0] 68 (n := w.heap.size + 1) (by rw [size_alloc]))
 have HB := Lib.hid (((Below.refl w.heap.size w).alloc (Nat.le_refl _) (.cells #[.int .i64 0, .int .i64 0, .int .i64 0] 68)).alloc (by rw [size_alloc]; omega) (.cells #[.int .i64 1, .int .i64 0, .int .i64 0] 68))
 obtain ⟨W, hW⟩ : ∃ W, (w.alloc (.cells #[.int .i64 0, .int .i64 0, .int .i64 0] 68)).alloc (.cells #[.int .i64 1, .int .i64 0, .int .i64 0] 68) = W := ⟨_, rfl⟩
 rw [hW] at HF HD HB
 rw [hW]
 clear hW
 obtain ⟨g, hg⟩ : ∃ g, w.heap.size = g := ⟨_, rfl⟩
 rw [hg] at HF HD HB ⊢
 have HG := Lib.hid (Nat.le_of_eq hg)
 clear hg
 go_wp2_with fail
 refine (Tryz.strings_CutPrefix s ⟨#[108, 97, 115, 116]⟩ _).mono ?_
 rintro e W' ⟨rfl, rfl⟩
 obtain ⟨pl, hpl⟩ : ∃ b, Lib.hasPrefix s.data.toList (⟨#[108, 97, 115, 116]⟩ : ByteArray).data.toList = b := ⟨_, rfl⟩
 obtain ⟨tl, htl⟩ : ∃ l, Lib.trimPrefix s.data.toList (⟨#[108, 97, 115, 116]⟩ : ByteArray).data.toList = l := ⟨_, rfl⟩
 rw [hpl, htl]
 cases pl
 ·skip
  have HI := Lib.hid (fun left (hl : ∀ k, k = 3 ∨ k = 4 → left (.int .i64 k) = true) => ry_plain (s := s) (left := left) hl hpl)
  clear hpl htl
  go_upto_region 6 with fail
  obtain ⟨V, hV⟩ : ∃ V, W' = V := ⟨_, rfl⟩
  rw [hV] at HF HD HB
  rw [hV]
  clear hV
  obtain ⟨bm, hbm⟩ : ∃ b, V.heap.size = b := ⟨_, rfl⟩
  have hgb : g + 1 < bm := by rw [← hbm]; exact HD.out.lt
  have own0 := World.ownsMap_made (H := Value) V Tryz.prog 3 RQ
  rw [hbm] at own0
  obtain ⟨M1, run1, own1, g1⟩ := own0.update keyI Tryz.underlying196 (by unfold maxLen; omega) (Maps.keyOf_int_mk (a := 3) Tryz.underlying3 (by decide)) (show RQ (.string ⟨#[62, 61]⟩) = some (.held (.string ⟨#[62, 61]⟩), []) from rfl)
  obtain ⟨M2, run2, own2, g2⟩ := own1.update keyI Tryz.underlying196 (by unfold maxLen; omega) (Maps.keyOf_int_mk (a := 4) Tryz.underlying3 (by decide)) (show RQ (.string ⟨#[60, 61]⟩) = some (.held (.string ⟨#[60, 61]⟩), []) from rfl)
  replace own2 := Lib.hid (show M2.ownsMap Tryz.prog 3 RQ bm 2 sgnD from own2)
  replace HF := Lib.hid (((HF.out.alloc (.map #[] 0)).grown g1 (by simp; omega)).grown g2 (by simp; omega))
  replace HD := Lib.hid (((HD.out.alloc (.map #[] 0)).grown g1 (by simp; omega)).grown g2 (by simp; omega))
  have hb1 := (((Below.refl bm V).alloc (by omega) (.map #[] 0)).grown g1 (by rw [size_alloc]; omega) (fun k hk => by cases hk; exact Nat.le_refl _)).grown g2 (Nat.le_trans (by rw [size_alloc]; omega) g1.size) (fun k hk => by cases hk; exact Nat.le_refl _)
  replace HB := Lib.hid (HB.out.trans (hb1.mono (by omega)))
  clear own0 hb1
  have hmk : (Instr.makeMap 196 none).run Tryz.prog V = .ok (.map (some bm)) (V.alloc (.map #[] 0)) := by rw [← hbm]; rfl
  go_wp2_with (first | (at_range; refine wpList_range_own _ rfl _ 196 rfl 3 9 keyI Tryz.underlying196 RQ bm 2 sgnD rfl own2.out ?_; intro w0 hrg0 hg0 hs0) | go_in)
  try go_frame
  obtain ⟨r0, hr0⟩ : ∃ r, M2.heap.size = r := ⟨_, rfl⟩
  rw [hr0] at hrg0 ⊢
  have hb1 := (Below.refl M2.heap.size M2).grown hg0 (Nat.le_refl _) (fun k hk => by cases hk)
  replace HB := Lib.hid (HB.out.trans (hb1.mono (Nat.le_of_lt HF.out.lt)))
  have hbr : bm < r0 := by rw [← hr0]; exact own2.out.lt
  replace HF := Lib.hid (HF.out.grown hg0 (by simp))
  replace HD := Lib.hid (HD.out.grown hg0 (by simp))
  clear hg0 hs0 own2 hb1 hmk
  clear hr0 hbm
  go_loopw [5] (fun rv wr => ∃ (r : ByteArray) (a b : Int) (left : Lit → Bool) (cnt : Nat), rv = .string r ∧ wr.ranges Tryz.prog 3 RQ bm r0 2 sgnD left cnt ∧ Blk wr g 68 #[.int .i64 0, .int .i64 0, .int .i64 0] ∧ Blk wr (g + 1) 68 #[.int .i64 a, .int .i64 b, .int .i64 0] ∧ Below g w wr ∧ r.size ≤ 4294967281 ∧ RyI s left a b r) (fun _ wr => wr.rangeLeft bm r0)
  case atStart => exact ⟨_, _, _, _, _, rfl, hrg0, HF.out, HD.out, HB.out, by omega, HI.out _ (fun k hk => by rcases hk with rfl | rfl <;> rfl)⟩
  case round =>
   clear HF HD HB HI
   obtain ⟨r, a, b, left, cnt, rfl, hrg, hF, hD, hB, hrs, hI⟩ := hrel
   have HF := Lib.hid hF
   have HD := Lib.hid hD
   have HB := Lib.hid hB
   have HI := Lib.hid hI
   have RG := Lib.hid hrg
   clear hF hD hB hI hrg
   go_wp2_with (first | (at_next; refine wpList_next_ranges _ rfl _ rfl 3 keyI RQ (Value.int .i64) (fun v : Value => v) (fun key kl hk => by obtain ⟨x, rfl, _⟩ := Maps.keyOf_int_inv Tryz.underlying3 hk; exact ⟨x, rfl⟩) (fun v y _ => ⟨v, rfl⟩) bm r0 2 _ _ _ rfl RG.out ?_ ?_) | go_in)
   ·skip
    intro _ hl0
    have HE := Lib.hid (ry_end HI.out hl0)
    have HA := Lib.hid ((HX.out.to HB.out HG.out).atoi r (by omega))
    obtain ⟨v, hv⟩ : ∃ v, atV r.data.toList = v := ⟨_, rfl⟩
    rw [hv] at HA HE
    clear hl0 hv HI RG
    go_wp2_with fail
    refine HA.out.mono ?_
    rintro e w2 ⟨er, rfl, hb⟩
    replace HB := Lib.hid (HB.out.trans (hb.mono (Nat.le_of_lt HF.out.lt)))
    replace HD := Lib.hid (HD.out.step hb)
    replace HF := Lib.hid (HF.out.step hb)
    clear hb HA
    have f0 := HD.out.cell 0
    have f1 := HD.out.cell 1
    have f2 := HD.out.cell 2
    have z0 := HD.out.frz 0
    have z1 := HD.out.frz 1
    have z2 := HD.out.frz 2
    have zl := HD.out.lt
    simp at f0 f1 f2
    go_upto_region 13 with fail
    clear f0 f1 f2 z0 z1 z2 zl
    replace HD := Lib.hid (HD.out.set 2 (.int .i64 v))
    replace HF := Lib.hid (HF.out.far (a := ⟨g + 1, 2, none⟩) (by show g ≠ g + 1; omega) (.int .i64 v))
    replace HB := Lib.hid (HB.out.setCell (show g ≤ (⟨g + 1, 2, none⟩ : Addr).block from Nat.le_succ g) (.int .i64 v))
    obtain ⟨V, hV⟩ : ∃ V, (w2).setCell ⟨g + 1, 2, none⟩ (.int .i64 v) = V := ⟨_, rfl⟩
    rw [hV] at HF HD HB
    rw [hV]
    clear hV
    replace HD := Lib.hid (show Blk V (g + 1) 68 #[.int .i64 a, .int .i64 b, .int .i64 v] from HD.out)
    have f0 := HD.out.cell 0
    have f1 := HD.out.cell 1
    have f2 := HD.out.cell 2
    have z0 := HD.out.frz 0
    have z1 := HD.out.frz 1
    have z2 := HD.out.frz 2
    have zl := HD.out.lt
    simp at f0 f1 f2
    go_wp2_with fail
    refine (d_Text a b v _).mono ?_
    rintro e w3 ⟨rfl, hb⟩
    clear f0 f1 f2 z0 z1 z2 zl
    replace HB := Lib.hid (HB.out.trans (hb.mono (Nat.le_of_lt HF.out.lt)))
    replace HD := Lib.hid (HD.out.step hb)
    replace HF := Lib.hid (HF.out.step hb)
    clear hb
    by_cases hok : dcOk a b v = true
    ·have hE := dcE_ok hok
     by_cases heq : dtV a b v = s
     ·have hd : ((dtV a b v).toList == s.toList) = true := by rw [heq]; exact beq_self_eq_true _
      have HR : Hid (RdDy s a b v 0) := Lib.hid (Or.inl ⟨hok, heq, rfl⟩)
      rw [hE]
      clear hok heq hE
      have f0 := HD.out.cell 0
      have f1 := HD.out.cell 1
      have f2 := HD.out.cell 2
      have z0 := HD.out.frz 0
      have z1 := HD.out.frz 1
      have z2 := HD.out.frz 2
      have zl := HD.out.lt
      simp at f0 f1 f2
      have q0 := HF.out.cell 0
      have q1 := HF.out.cell 1
      have q2 := HF.out.cell 2
      have y0 := HF.out.frz 0
      have y1 := HF.out.frz 1
      have y2 := HF.out.frz 2
      have yl := HF.out.lt
      simp at q0 q1 q2
      go_wp2_with fail
      have HFF := Lib.hid (show Blk ((((w3).setCell ⟨g, 0, none⟩ (.int .i64 a)).setCell ⟨g, 1, none⟩ (.int .i64 b)).setCell ⟨g, 2, none⟩ (.int .i64 v)) g 68 #[.int .i64 a, .int .i64 b, .int .i64 v] from ((HF.out.set 0 (.int .i64 a)).set 1 (.int .i64 b)).set 2 (.int .i64 v))
      have HBF := Lib.hid (show Below g w ((((w3).setCell ⟨g, 0, none⟩ (.int .i64 a)).setCell ⟨g, 1, none⟩ (.int .i64 b)).setCell ⟨g, 2, none⟩ (.int .i64 v)) from ((HB.out.setCell (show g ≤ (⟨g, 0, none⟩ : Addr).block from Nat.le_refl g) _).setCell (show g ≤ (⟨g, 1, none⟩ : Addr).block from Nat.le_refl g) _).setCell (show g ≤ (⟨g, 2, none⟩ : Addr).block from Nat.le_refl g) _)
      obtain ⟨U, hU⟩ : ∃ U, (((w3).setCell ⟨g, 0, none⟩ (.int .i64 a)).setCell ⟨g, 1, none⟩ (.int .i64 b)).setCell ⟨g, 2, none⟩ (.int .i64 v) = U := ⟨_, rfl⟩
      rw [hU] at HFF HBF ⊢
      have hf := HFF.out.cell
      exact bodyPost_ret (v := .tuple #[.agg #[.int .i64 a, .int .i64 b, .int .i64 v], .int .i64 0]) (by simp [results, Tryz.results93, go_sem, hf]) rfl ⟨_, _, _, _, rfl, HR.out, HBF.out.mono HG.out⟩
     ·have hd : ((dtV a b v).toList == s.toList) = false := str_ne heq
      have HR := Lib.hid (ry_bad HE.out (fun _ => heq))
      rw [hE]
      clear hok heq hE
      have f0 := HD.out.cell 0
      have f1 := HD.out.cell 1
      have f2 := HD.out.cell 2
      have z0 := HD.out.frz 0
      have z1 := HD.out.frz 1
      have z2 := HD.out.frz 2
      have zl := HD.out.lt
      simp at f0 f1 f2
      have q0 := HF.out.cell 0
      have q1 := HF.out.cell 1
      have q2 := HF.out.cell 2
      have y0 := HF.out.frz 0
      have y1 := HF.out.frz 1
      have y2 := HF.out.frz 2
      have yl := HF.out.lt
      simp at q0 q1 q2
      go_wp2_with fail
      have HFF := Lib.hid (show Blk ((((w3).setCell ⟨g, 0, none⟩ (.int .i64 0)).setCell ⟨g, 1, none⟩ (.int .i64 0)).setCell ⟨g, 2, none⟩ (.int .i64 0)) g 68 #[.int .i64 0, .int .i64 0, .int .i64 0] from ((HF.out.set 0 (.int .i64 0)).set 1 (.int .i64 0)).set 2 (.int .i64 0))
      have HBF := Lib.hid (show Below g w ((((w3).setCell ⟨g, 0, none⟩ (.int .i64 0)).setCell ⟨g, 1, none⟩ (.int .i64 0)).setCell ⟨g, 2, none⟩ (.int .i64 0)) from ((HB.out.setCell (show g ≤ (⟨g, 0, none⟩ : Addr).block from Nat.le_refl g) _).setCell (show g ≤ (⟨g, 1, none⟩ : Addr).block from Nat.le_refl g) _).setCell (show g ≤ (⟨g, 2, none⟩ : Addr).block from Nat.le_refl g) _)
      obtain ⟨U, hU⟩ : ∃ U, (((w3).setCell ⟨g, 0, none⟩ (.int .i64 0)).setCell ⟨g, 1, none⟩ (.int .i64 0)).setCell ⟨g, 2, none⟩ (.int .i64 0) = U := ⟨_, rfl⟩
      rw [hU] at HFF HBF ⊢
      have hf := HFF.out.cell
      exact bodyPost_ret (v := .tuple #[.agg #[.int .i64 0, .int .i64 0, .int .i64 0], .int .i64 3]) (by simp [results, Tryz.results93, go_sem, hf]) rfl ⟨_, _, _, _, rfl, HR.out, HBF.out.mono HG.out⟩
    ·have hE := dcE_no (Bool.eq_false_iff.2 hok)
     have HR := Lib.hid (ry_bad HE.out (fun h => absurd h hok))
     rw [hE]
     clear hok hE
     have f0 := HD.out.cell 0
     have f1 := HD.out.cell 1
     have f2 := HD.out.cell 2
     have z0 := HD.out.frz 0
     have z1 := HD.out.frz 1
     have z2 := HD.out.frz 2
     have zl := HD.out.lt
     simp at f0 f1 f2
     have q0 := HF.out.cell 0
     have q1 := HF.out.cell 1
     have q2 := HF.out.cell 2
     have y0 := HF.out.frz 0
     have y1 := HF.out.frz 1
     have y2 := HF.out.frz 2
     have yl := HF.out.lt
     simp at q0 q1 q2
     go_wp2_with fail
     have HFF := Lib.hid (show Blk ((((w3).setCell ⟨g, 0, none⟩ (.int .i64 0)).setCell ⟨g, 1, none⟩ (.int .i64 0)).setCell ⟨g, 2, none⟩ (.int .i64 0)) g 68 #[.int .i64 0, .int .i64 0, .int .i64 0] from ((HF.out.set 0 (.int .i64 0)).set 1 (.int .i64 0)).set 2 (.int .i64 0))
     have HBF := Lib.hid (show Below g w ((((w3).setCell ⟨g, 0, none⟩ (.int .i64 0)).setCell ⟨g, 1, none⟩ (.int .i64 0)).setCell ⟨g, 2, none⟩ (.int .i64 0)) from ((HB.out.setCell (show g ≤ (⟨g, 0, none⟩ : Addr).block from Nat.le_refl g) _).setCell (show g ≤ (⟨g, 1, none⟩ : Addr).block from Nat.le_refl g) _).setCell (show g ≤ (⟨g, 2, none⟩ : Addr).block from Nat.le_refl g) _)
     obtain ⟨U, hU⟩ : ∃ U, (((w3).setCell ⟨g, 0, none⟩ (.int .i64 0)).setCell ⟨g, 1, none⟩ (.int .i64 0)).setCell ⟨g, 2, none⟩ (.int .i64 0) = U := ⟨_, rfl⟩
     rw [hU] at HFF HBF ⊢
     have hf := HFF.out.cell
     exact bodyPost_ret (v := .tuple #[.agg #[.int .i64 0, .int .i64 0, .int .i64 0], .int .i64 3]) (by simp [results, Tryz.results93, go_sem, hf]) rfl ⟨_, _, _, _, rfl, HR.out, HBF.out.mono HG.out⟩
   ·skip
    intro x c kl yd yp w1 cnt1 hkey hlk hv hat hrg1 hlt hg1 hs1 hen
    obtain ⟨x', ex, rfl, _⟩ := Maps.keyOf_int_inv Tryz.underlying3 hkey
    cases ex
    obtain ⟨rfl, rfl⟩ : (.held c : DataW Value) = yd ∧ [] = yp := by simpa [RQ] using hv
    have hxc := sgnD_at hat
    have hb1 := (Below.refl g wr).grown hg1 (Nat.le_of_lt HF.out.lt) (fun k hk => by cases hk; omega)
    replace HB := Lib.hid (HB.out.trans hb1)
    replace HF := Lib.hid (HF.out.grown hg1 (by simp; omega))
    replace HD := Lib.hid (HD.out.grown hg1 (by simp; omega))
    have RG1 := Lib.hid hrg1
    have HLT := Lib.hid (show cnt1 < wr.rangeLeft bm r0 by rw [RG.out.left_eq]; exact hlt)
    clear hkey hlk hv hat hrg1 hlt hg1 hs1 hb1 RG
    rcases hxc with ⟨rfl, rfl⟩ | ⟨rfl, rfl⟩
    ·skip
     have HC := Lib.hid ((HX.out.to HB.out HG.out).cut s ⟨#[62, 61]⟩ hs)
     have hlen := cut_len s.data.toList [62, 61]
     obtain ⟨q, hq⟩ : ∃ q, Lib.cut s.data.toList (⟨#[62, 61]⟩ : ByteArray).data.toList = q := ⟨_, rfl⟩
     have hq' : Lib.cut s.data.toList [62, 61] = q := hq
     rw [hq] at HC
     rw [hq'] at hlen
     clear hq
     obtain ⟨q1, q2, q3⟩ := q
     have hsz : (⟨q2.toArray⟩ : ByteArray).size ≤ 4294967281 := by rw [Lib.size_eq, back_arr]; have e2 := Lib.size_eq s; have e3 : q2.length ≤ s.data.toList.length := hlen; omega
     clear hlen
     go_wp2_with fail
     refine HC.out.mono ?_
     rintro e w2 ⟨rfl, hb⟩
     clear HC
     have hgb2 := grown_of_below hb
     replace HB := Lib.hid (HB.out.trans (hb.mono (Nat.le_of_lt HF.out.lt)))
     replace HD := Lib.hid (HD.out.step hb)
     replace HF := Lib.hid (HF.out.step hb)
     replace RG1 := Lib.hid (RG1.out.kept hgb2 (by simp) (by simp))
     clear hb hgb2 hen
     cases q3
     ·skip
      have HI2 := Lib.hid (ry_no (left' := fun z => left z && !z.sameKey (.int .i64 3)) HI.out (fun _ => rfl) (Or.inl ⟨rfl, rfl⟩) (by rw [hq']))
      clear hq'
      go_wp2_with fail
      exact ⟨⟨r, a, b, _, _, rfl, RG1.out, HF.out, HD.out, HB.out, hrs, HI2.out⟩, by rw [RG1.out.left_eq]; exact HLT.out⟩
     ·skip
      have HI2 := Lib.hid (ry_yes (left' := fun z => left z && !z.sameKey (.int .i64 3)) (Or.inl ⟨rfl, rfl⟩) hq')
      clear hq'
      go_wp2_with fail
      refine (d_weekday _ _).mono ?_
      rintro e w3 ⟨rfl, hb⟩
      obtain ⟨wk, hwk⟩ : ∃ x, Lib.idxOfS dayB ⟨q1.toArray⟩ = x := ⟨_, rfl⟩
      rw [hwk] at HI2 ⊢
      clear hwk
      have hgb2 := grown_of_below hb
      replace HB := Lib.hid (HB.out.trans (hb.mono (Nat.le_of_lt HF.out.lt)))
      replace HD := Lib.hid (HD.out.step hb)
      replace HF := Lib.hid (HF.out.step hb)
      replace RG1 := Lib.hid (RG1.out.kept hgb2 (by simp) (by simp))
      clear hb hgb2
      have f0 := HD.out.cell 0
      have f1 := HD.out.cell 1
      have f2 := HD.out.cell 2
      have z0 := HD.out.frz 0
      have z1 := HD.out.frz 1
      have z2 := HD.out.frz 2
      have zl := HD.out.lt
      simp at f0 f1 f2
      go_wp2_with fail
      have RG2 := (RG1.out.kept (grown_set w3 ⟨g + 1, 0, none⟩ (.int .i64 3)) (by simp; omega) (by simp; omega)).kept (grown_set _ ⟨g + 1, 1, none⟩ (.int .i64 wk)) (by simp; omega) (by simp; omega)
      exact ⟨⟨_, _, _, _, _, rfl, RG2, (HF.out.far (a := ⟨g + 1, 0, none⟩) (by show g ≠ g + 1; omega) _).far (a := ⟨g + 1, 1, none⟩) (by show g ≠ g + 1; omega) _, (HD.out.set 0 (.int .i64 3)).set 1 (.int .i64 wk), (HB.out.setCell (show g ≤ (⟨g + 1, 0, none⟩ : Addr).block from Nat.le_succ g) _).setCell (show g ≤ (⟨g + 1, 1, none⟩ : Addr).block from Nat.le_succ g) _, hsz, HI2.out⟩, by rw [RG2.left_eq]; exact HLT.out⟩
    ·skip
     have HC := Lib.hid ((HX.out.to HB.out HG.out).cut s ⟨#[60, 61]⟩ hs)
     have hlen := cut_len s.data.toList [60, 61]
     obtain ⟨q, hq⟩ : ∃ q, Lib.cut s.data.toList (⟨#[60, 61]⟩ : ByteArray).data.toList = q := ⟨_, rfl⟩
     have hq' : Lib.cut s.data.toList [60, 61] = q := hq
     rw [hq] at HC
     rw [hq'] at hlen
     clear hq
     obtain ⟨q1, q2, q3⟩ := q
     have hsz : (⟨q2.toArray⟩ : ByteArray).size ≤ 4294967281 := by rw [Lib.size_eq, back_arr]; have e2 := Lib.size_eq s; have e3 : q2.length ≤ s.data.toList.length := hlen; omega
     clear hlen
     go_wp2_with fail
     refine HC.out.mono ?_
     rintro e w2 ⟨rfl, hb⟩
     clear HC
     have hgb2 := grown_of_below hb
     replace HB := Lib.hid (HB.out.trans (hb.mono (Nat.le_of_lt HF.out.lt)))
     replace HD := Lib.hid (HD.out.step hb)
     replace HF := Lib.hid (HF.out.step hb)
     replace RG1 := Lib.hid (RG1.out.kept hgb2 (by simp) (by simp))
     clear hb hgb2 hen
     cases q3
     ·skip
      have HI2 := Lib.hid (ry_no (left' := fun z => left z && !z.sameKey (.int .i64 4)) HI.out (fun _ => rfl) (Or.inr ⟨rfl, rfl⟩) (by rw [hq']))
      clear hq'
      go_wp2_with fail
      exact ⟨⟨r, a, b, _, _, rfl, RG1.out, HF.out, HD.out, HB.out, hrs, HI2.out⟩, by rw [RG1.out.left_eq]; exact HLT.out⟩
     ·skip
      have HI2 := Lib.hid (ry_yes (left' := fun z => left z && !z.sameKey (.int .i64 4)) (Or.inr ⟨rfl, rfl⟩) hq')
      clear hq'
      go_wp2_with fail
      refine (d_weekday _ _).mono ?_
      rintro e w3 ⟨rfl, hb⟩
      obtain ⟨wk, hwk⟩ : ∃ x, Lib.idxOfS dayB ⟨q1.toArray⟩ = x := ⟨_, rfl⟩
      rw [hwk] at HI2 ⊢
      clear hwk
      have hgb2 := grown_of_below hb
      replace HB := Lib.hid (HB.out.trans (hb.mono (Nat.le_of_lt HF.out.lt)))
      replace HD := Lib.hid (HD.out.step hb)
      replace HF := Lib.hid (HF.out.step hb)
      replace RG1 := Lib.hid (RG1.out.kept hgb2 (by simp) (by simp))
      clear hb hgb2
      have f0 := HD.out.cell 0
      have f1 := HD.out.cell 1
      have f2 := HD.out.cell 2
      have z0 := HD.out.frz 0
      have z1 := HD.out.frz 1
      have z2 := HD.out.frz 2
      have zl := HD.out.lt
      simp at f0 f1 f2
      go_wp2_with fail
      have RG2 := (RG1.out.kept (grown_set w3 ⟨g + 1, 0, none⟩ (.int .i64 4)) (by simp; omega) (by simp; omega)).kept (grown_set _ ⟨g + 1, 1, none⟩ (.int .i64 wk)) (by simp; omega) (by simp; omega)
      exact ⟨⟨_, _, _, _, _, rfl, RG2, (HF.out.far (a := ⟨g + 1, 0, none⟩) (by show g ≠ g + 1; omega) _).far (a := ⟨g + 1, 1, none⟩) (by show g ≠ g + 1; omega) _, (HD.out.set 0 (.int .i64 4)).set 1 (.int .i64 wk), (HB.out.setCell (show g ≤ (⟨g + 1, 0, none⟩ : Addr).block from Nat.le_succ g) _).setCell (show g ≤ (⟨g + 1, 1, none⟩ : Addr).block from Nat.le_succ g) _, hsz, HI2.out⟩, by rw [RG2.left_eq]; exact HLT.out⟩
 ·skip
  have HI := Lib.hid (fun left => ry_last (s := s) (left := left) hpl)
  rw [show Lib.trimPrefix s.data.toList [108, 97, 115, 116] = tl from htl] at HI
  clear hpl htl
  go_wp2_with fail
  refine (d_weekday _ _).mono ?_
  rintro e W1 ⟨rfl, hb⟩
  replace HB := Lib.hid (HB.out.trans (hb.mono (Nat.le_of_lt HF.out.lt)))
  replace HD := Lib.hid (HD.out.step hb)
  replace HF := Lib.hid (HF.out.step hb)
  clear hb
  obtain ⟨wk, hwk⟩ : ∃ x, Lib.idxOfS dayB ⟨tl.toArray⟩ = x := ⟨_, rfl⟩
  rw [hwk] at HI ⊢
  clear hwk
  have f0 := HD.out.cell 0
  have f1 := HD.out.cell 1
  have f2 := HD.out.cell 2
  have z0 := HD.out.frz 0
  have z1 := HD.out.frz 1
  have z2 := HD.out.frz 2
  have zl := HD.out.lt
  simp at f0 f1 f2
  go_upto_region 6 with fail
  clear f0 f1 f2 z0 z1 z2 zl
  replace HD := Lib.hid (HD.out.set 0 (.int .i64 2))
  replace HF := Lib.hid (HF.out.far (a := ⟨g + 1, 0, none⟩) (by show g ≠ g + 1; omega) (.int .i64 2))
  replace HB := Lib.hid (HB.out.setCell (show g ≤ (⟨g + 1, 0, none⟩ : Addr).block from Nat.le_succ g) (.int .i64 2))
  replace HD := Lib.hid (HD.out.set 1 (.int .i64 wk))
  replace HF := Lib.hid (HF.out.far (a := ⟨g + 1, 1, none⟩) (by show g ≠ g + 1; omega) (.int .i64 wk))
  replace HB := Lib.hid (HB.out.setCell (show g ≤ (⟨g + 1, 1, none⟩ : Addr).block from Nat.le_succ g) (.int .i64 wk))
  obtain ⟨V, hV⟩ : ∃ V, ((W1).setCell ⟨g + 1, 0, none⟩ (.int .i64 2)).setCell ⟨g + 1, 1, none⟩ (.int .i64 wk) = V := ⟨_, rfl⟩
  rw [hV] at HF HD HB
  rw [hV]
  clear hV
  obtain ⟨bm, hbm⟩ : ∃ b, V.heap.size = b := ⟨_, rfl⟩
  have hgb : g + 1 < bm := by rw [← hbm]; exact HD.out.lt
  have own0 := World.ownsMap_made (H := Value) V Tryz.prog 3 RQ
  rw [hbm] at own0
  obtain ⟨M1, run1, own1, g1⟩ := own0.update keyI Tryz.underlying196 (by unfold maxLen; omega) (Maps.keyOf_int_mk (a := 3) Tryz.underlying3 (by decide)) (show RQ (.string ⟨#[62, 61]⟩) = some (.held (.string ⟨#[62, 61]⟩), []) from rfl)
  obtain ⟨M2, run2, own2, g2⟩ := own1.update keyI Tryz.underlying196 (by unfold maxLen; omega) (Maps.keyOf_int_mk (a := 4) Tryz.underlying3 (by decide)) (show RQ (.string ⟨#[60, 61]⟩) = some (.held (.string ⟨#[60, 61]⟩), []) from rfl)
  replace own2 := Lib.hid (show M2.ownsMap Tryz.prog 3 RQ bm 2 sgnD from own2)
  replace HF := Lib.hid (((HF.out.alloc (.map #[] 0)).grown g1 (by simp; omega)).grown g2 (by simp; omega))
  replace HD := Lib.hid (((HD.out.alloc (.map #[] 0)).grown g1 (by simp; omega)).grown g2 (by simp; omega))
  have hb1 := (((Below.refl bm V).alloc (by omega) (.map #[] 0)).grown g1 (by rw [size_alloc]; omega) (fun k hk => by cases hk; exact Nat.le_refl _)).grown g2 (Nat.le_trans (by rw [size_alloc]; omega) g1.size) (fun k hk => by cases hk; exact Nat.le_refl _)
  replace HB := Lib.hid (HB.out.trans (hb1.mono (by omega)))
  clear own0 hb1
  have hmk : (Instr.makeMap 196 none).run Tryz.prog V = .ok (.map (some bm)) (V.alloc (.map #[] 0)) := by rw [← hbm]; rfl
  go_wp2_with (first | (at_range; refine wpList_range_own _ rfl _ 196 rfl 3 9 keyI Tryz.underlying196 RQ bm 2 sgnD rfl own2.out ?_; intro w0 hrg0 hg0 hs0) | go_in)
  try go_frame
  obtain ⟨r0, hr0⟩ : ∃ r, M2.heap.size = r := ⟨_, rfl⟩
  rw [hr0] at hrg0 ⊢
  have hb1 := (Below.refl M2.heap.size M2).grown hg0 (Nat.le_refl _) (fun k hk => by cases hk)
  replace HB := Lib.hid (HB.out.trans (hb1.mono (Nat.le_of_lt HF.out.lt)))
  have hbr : bm < r0 := by rw [← hr0]; exact own2.out.lt
  replace HF := Lib.hid (HF.out.grown hg0 (by simp))
  replace HD := Lib.hid (HD.out.grown hg0 (by simp))
  clear hg0 hs0 own2 hb1 hmk
  clear hr0 hbm
  go_loopw [5] (fun rv wr => ∃ (r : ByteArray) (a b : Int) (left : Lit → Bool) (cnt : Nat), rv = .string r ∧ wr.ranges Tryz.prog 3 RQ bm r0 2 sgnD left cnt ∧ Blk wr g 68 #[.int .i64 0, .int .i64 0, .int .i64 0] ∧ Blk wr (g + 1) 68 #[.int .i64 a, .int .i64 b, .int .i64 0] ∧ Below g w wr ∧ r.size ≤ 4294967281 ∧ RyI s left a b r) (fun _ wr => wr.rangeLeft bm r0)
  case atStart => exact ⟨_, _, _, _, _, rfl, hrg0, HF.out, HD.out, HB.out, by decide, HI.out _⟩
  case round =>
   clear HF HD HB HI
   obtain ⟨r, a, b, left, cnt, rfl, hrg, hF, hD, hB, hrs, hI⟩ := hrel
   have HF := Lib.hid hF
   have HD := Lib.hid hD
   have HB := Lib.hid hB
   have HI := Lib.hid hI
   have RG := Lib.hid hrg
   clear hF hD hB hI hrg
   go_wp2_with (first | (at_next; refine wpList_next_ranges _ rfl _ rfl 3 keyI RQ (Value.int .i64) (fun v : Value => v) (fun key kl hk => by obtain ⟨x, rfl, _⟩ := Maps.keyOf_int_inv Tryz.underlying3 hk; exact ⟨x, rfl⟩) (fun v y _ => ⟨v, rfl⟩) bm r0 2 _ _ _ rfl RG.out ?_ ?_) | go_in)
   ·skip
    intro _ hl0
    have HE := Lib.hid (ry_end HI.out hl0)
    have HA := Lib.hid ((HX.out.to HB.out HG.out).atoi r (by omega))
    obtain ⟨v, hv⟩ : ∃ v, atV r.data.toList = v := ⟨_, rfl⟩
    rw [hv] at HA HE
    clear hl0 hv HI RG
    go_wp2_with fail
    refine HA.out.mono ?_
    rintro e w2 ⟨er, rfl, hb⟩
    replace HB := Lib.hid (HB.out.trans (hb.mono (Nat.le_of_lt HF.out.lt)))
    replace HD := Lib.hid (HD.out.step hb)
    replace HF := Lib.hid (HF.out.step hb)
    clear hb HA
    have f0 := HD.out.cell 0
    have f1 := HD.out.cell 1
    have f2 := HD.out.cell 2
    have z0 := HD.out.frz 0
    have z1 := HD.out.frz 1
    have z2 := HD.out.frz 2
    have zl := HD.out.lt
    simp at f0 f1 f2
    go_upto_region 13 with fail
    clear f0 f1 f2 z0 z1 z2 zl
    replace HD := Lib.hid (HD.out.set 2 (.int .i64 v))
    replace HF := Lib.hid (HF.out.far (a := ⟨g + 1, 2, none⟩) (by show g ≠ g + 1; omega) (.int .i64 v))
    replace HB := Lib.hid (HB.out.setCell (show g ≤ (⟨g + 1, 2, none⟩ : Addr).block from Nat.le_succ g) (.int .i64 v))
    obtain ⟨V, hV⟩ : ∃ V, (w2).setCell ⟨g + 1, 2, none⟩ (.int .i64 v) = V := ⟨_, rfl⟩
    rw [hV] at HF HD HB
    rw [hV]
    clear hV
    replace HD := Lib.hid (show Blk V (g + 1) 68 #[.int .i64 a, .int .i64 b, .int .i64 v] from HD.out)
    have f0 := HD.out.cell 0
    have f1 := HD.out.cell 1
    have f2 := HD.out.cell 2
    have z0 := HD.out.frz 0
    have z1 := HD.out.frz 1
    have z2 := HD.out.frz 2
    have zl := HD.out.lt
    simp at f0 f1 f2
    go_wp2_with fail
    refine (d_Text a b v _).mono ?_
    rintro e w3 ⟨rfl, hb⟩
    clear f0 f1 f2 z0 z1 z2 zl
    replace HB := Lib.hid (HB.out.trans (hb.mono (Nat.le_of_lt HF.out.lt)))
    replace HD := Lib.hid (HD.out.step hb)
    replace HF := Lib.hid (HF.out.step hb)
    clear hb
    by_cases hok : dcOk a b v = true
    ·have hE := dcE_ok hok
     by_cases heq : dtV a b v = s
     ·have hd : ((dtV a b v).toList == s.toList) = true := by rw [heq]; exact beq_self_eq_true _
      have HR : Hid (RdDy s a b v 0) := Lib.hid (Or.inl ⟨hok, heq, rfl⟩)
      rw [hE]
      clear hok heq hE
      have f0 := HD.out.cell 0
      have f1 := HD.out.cell 1
      have f2 := HD.out.cell 2
      have z0 := HD.out.frz 0
      have z1 := HD.out.frz 1
      have z2 := HD.out.frz 2
      have zl := HD.out.lt
      simp at f0 f1 f2
      have q0 := HF.out.cell 0
      have q1 := HF.out.cell 1
      have q2 := HF.out.cell 2
      have y0 := HF.out.frz 0
      have y1 := HF.out.frz 1
      have y2 := HF.out.frz 2
      have yl := HF.out.lt
      simp at q0 q1 q2
      go_wp2_with fail
      have HFF := Lib.hid (show Blk ((((w3).setCell ⟨g, 0, none⟩ (.int .i64 a)).setCell ⟨g, 1, none⟩ (.int .i64 b)).setCell ⟨g, 2, none⟩ (.int .i64 v)) g 68 #[.int .i64 a, .int .i64 b, .int .i64 v] from ((HF.out.set 0 (.int .i64 a)).set 1 (.int .i64 b)).set 2 (.int .i64 v))
      have HBF := Lib.hid (show Below g w ((((w3).setCell ⟨g, 0, none⟩ (.int .i64 a)).setCell ⟨g, 1, none⟩ (.int .i64 b)).setCell ⟨g, 2, none⟩ (.int .i64 v)) from ((HB.out.setCell (show g ≤ (⟨g, 0, none⟩ : Addr).block from Nat.le_refl g) _).setCell (show g ≤ (⟨g, 1, none⟩ : Addr).block from Nat.le_refl g) _).setCell (show g ≤ (⟨g, 2, none⟩ : Addr).block from Nat.le_refl g) _)
      obtain ⟨U, hU⟩ : ∃ U, (((w3).setCell ⟨g, 0, none⟩ (.int .i64 a)).setCell ⟨g, 1, none⟩ (.int .i64 b)).setCell ⟨g, 2, none⟩ (.int .i64 v) = U := ⟨_, rfl⟩
      rw [hU] at HFF HBF ⊢
      have hf := HFF.out.cell
      exact bodyPost_ret (v := .tuple #[.agg #[.int .i64 a, .int .i64 b, .int .i64 v], .int .i64 0]) (by simp [results, Tryz.results93, go_sem, hf]) rfl ⟨_, _, _, _, rfl, HR.out, HBF.out.mono HG.out⟩
     ·have hd : ((dtV a b v).toList == s.toList) = false := str_ne heq
      have HR := Lib.hid (ry_bad HE.out (fun _ => heq))
      rw [hE]
      clear hok heq hE
      have f0 := HD.out.cell 0
      have f1 := HD.out.cell 1
      have f2 := HD.out.cell 2
      have z0 := HD.out.frz 0
      have z1 := HD.out.frz 1
      have z2 := HD.out.frz 2
      have zl := HD.out.lt
      simp at f0 f1 f2
      have q0 := HF.out.cell 0
      have q1 := HF.out.cell 1
      have q2 := HF.out.cell 2
      have y0 := HF.out.frz 0
      have y1 := HF.out.frz 1
      have y2 := HF.out.frz 2
      have yl := HF.out.lt
      simp at q0 q1 q2
      go_wp2_with fail
      have HFF := Lib.hid (show Blk ((((w3).setCell ⟨g, 0, none⟩ (.int .i64 0)).setCell ⟨g, 1, none⟩ (.int .i64 0)).setCell ⟨g, 2, none⟩ (.int .i64 0)) g 68 #[.int .i64 0, .int .i64 0, .int .i64 0] from ((HF.out.set 0 (.int .i64 0)).set 1 (.int .i64 0)).set 2 (.int .i64 0))
      have HBF := Lib.hid (show Below g w ((((w3).setCell ⟨g, 0, none⟩ (.int .i64 0)).setCell ⟨g, 1, none⟩ (.int .i64 0)).setCell ⟨g, 2, none⟩ (.int .i64 0)) from ((HB.out.setCell (show g ≤ (⟨g, 0, none⟩ : Addr).block from Nat.le_refl g) _).setCell (show g ≤ (⟨g, 1, none⟩ : Addr).block from Nat.le_refl g) _).setCell (show g ≤ (⟨g, 2, none⟩ : Addr).block from Nat.le_refl g) _)
      obtain ⟨U, hU⟩ : ∃ U, (((w3).setCell ⟨g, 0, none⟩ (.int .i64 0)).setCell ⟨g, 1, none⟩ (.int .i64 0)).setCell ⟨g, 2, none⟩ (.int .i64 0) = U := ⟨_, rfl⟩
      rw [hU] at HFF HBF ⊢
      have hf := HFF.out.cell
      exact bodyPost_ret (v := .tuple #[.agg #[.int .i64 0, .int .i64 0, .int .i64 0], .int .i64 3]) (by simp [results, Tryz.results93, go_sem, hf]) rfl ⟨_, _, _, _, rfl, HR.out, HBF.out.mono HG.out⟩
    ·have hE := dcE_no (Bool.eq_false_iff.2 hok)
     have HR := Lib.hid (ry_bad HE.out (fun h => absurd h hok))
     rw [hE]
     clear hok hE
     have f0 := HD.out.cell 0
     have f1 := HD.out.cell 1
     have f2 := HD.out.cell 2
     have z0 := HD.out.frz 0
     have z1 := HD.out.frz 1
     have z2 := HD.out.frz 2
     have zl := HD.out.lt
     simp at f0 f1 f2
     have q0 := HF.out.cell 0
     have q1 := HF.out.cell 1
     have q2 := HF.out.cell 2
     have y0 := HF.out.frz 0
     have y1 := HF.out.frz 1
     have y2 := HF.out.frz 2
     have yl := HF.out.lt
     simp at q0 q1 q2
     go_wp2_with fail
     have HFF := Lib.hid (show Blk ((((w3).setCell ⟨g, 0, none⟩ (.int .i64 0)).setCell ⟨g, 1, none⟩ (.int .i64 0)).setCell ⟨g, 2, none⟩ (.int .i64 0)) g 68 #[.int .i64 0, .int .i64 0, .int .i64 0] from ((HF.out.set 0 (.int .i64 0)).set 1 (.int .i64 0)).set 2 (.int .i64 0))
     have HBF := Lib.hid (show Below g w ((((w3).setCell ⟨g, 0, none⟩ (.int .i64 0)).setCell ⟨g, 1, none⟩ (.int .i64 0)).setCell ⟨g, 2, none⟩ (.int .i64 0)) from ((HB.out.setCell (show g ≤ (⟨g, 0, none⟩ : Addr).block from Nat.le_refl g) _).setCell (show g ≤ (⟨g, 1, none⟩ : Addr).block from Nat.le_refl g) _).setCell (show g ≤ (⟨g, 2, none⟩ : Addr).block from Nat.le_refl g) _)
     obtain ⟨U, hU⟩ : ∃ U, (((w3).setCell ⟨g, 0, none⟩ (.int .i64 0)).setCell ⟨g, 1, none⟩ (.int .i64 0)).setCell ⟨g, 2, none⟩ (.int .i64 0) = U := ⟨_, rfl⟩
     rw [hU] at HFF HBF ⊢
     have hf := HFF.out.cell
     exact bodyPost_ret (v := .tuple #[.agg #[.int .i64 0, .int .i64 0, .int .i64 0], .int .i64 3]) (by simp [results, Tryz.results93, go_sem, hf]) rfl ⟨_, _, _, _, rfl, HR.out, HBF.out.mono HG.out⟩
   ·skip
    intro x c kl yd yp w1 cnt1 hkey hlk hv hat hrg1 hlt hg1 hs1 hen
    obtain ⟨x', ex, rfl, _⟩ := Maps.keyOf_int_inv Tryz.underlying3 hkey
    cases ex
    obtain ⟨rfl, rfl⟩ : (.held c : DataW Value) = yd ∧ [] = yp := by simpa [RQ] using hv
    have hxc := sgnD_at hat
    have hb1 := (Below.refl g wr).grown hg1 (Nat.le_of_lt HF.out.lt) (fun k hk => by cases hk; omega)
    replace HB := Lib.hid (HB.out.trans hb1)
    replace HF := Lib.hid (HF.out.grown hg1 (by simp; omega))
    replace HD := Lib.hid (HD.out.grown hg1 (by simp; omega))
    have RG1 := Lib.hid hrg1
    have HLT := Lib.hid (show cnt1 < wr.rangeLeft bm r0 by rw [RG.out.left_eq]; exact hlt)
    clear hkey hlk hv hat hrg1 hlt hg1 hs1 hb1 RG
    rcases hxc with ⟨rfl, rfl⟩ | ⟨rfl, rfl⟩
    ·skip
     have HC := Lib.hid ((HX.out.to HB.out HG.out).cut s ⟨#[62, 61]⟩ hs)
     have hlen := cut_len s.data.toList [62, 61]
     obtain ⟨q, hq⟩ : ∃ q, Lib.cut s.data.toList (⟨#[62, 61]⟩ : ByteArray).data.toList = q := ⟨_, rfl⟩
     have hq' : Lib.cut s.data.toList [62, 61] = q := hq
     rw [hq] at HC
     rw [hq'] at hlen
     clear hq
     obtain ⟨q1, q2, q3⟩ := q
     have hsz : (⟨q2.toArray⟩ : ByteArray).size ≤ 4294967281 := by rw [Lib.size_eq, back_arr]; have e2 := Lib.size_eq s; have e3 : q2.length ≤ s.data.toList.length := hlen; omega
     clear hlen
     go_wp2_with fail
     refine HC.out.mono ?_
     rintro e w2 ⟨rfl, hb⟩
     clear HC
     have hgb2 := grown_of_below hb
     replace HB := Lib.hid (HB.out.trans (hb.mono (Nat.le_of_lt HF.out.lt)))
     replace HD := Lib.hid (HD.out.step hb)
     replace HF := Lib.hid (HF.out.step hb)
     replace RG1 := Lib.hid (RG1.out.kept hgb2 (by simp) (by simp))
     clear hb hgb2 hen
     cases q3
     ·skip
      have HI2 := Lib.hid (ry_no (left' := fun z => left z && !z.sameKey (.int .i64 3)) HI.out (fun _ => rfl) (Or.inl ⟨rfl, rfl⟩) (by rw [hq']))
      clear hq'
      go_wp2_with fail
      exact ⟨⟨r, a, b, _, _, rfl, RG1.out, HF.out, HD.out, HB.out, hrs, HI2.out⟩, by rw [RG1.out.left_eq]; exact HLT.out⟩
     ·skip
      have HI2 := Lib.hid (ry_yes (left' := fun z => left z && !z.sameKey (.int .i64 3)) (Or.inl ⟨rfl, rfl⟩) hq')
      clear hq'
      go_wp2_with fail
      refine (d_weekday _ _).mono ?_
      rintro e w3 ⟨rfl, hb⟩
      obtain ⟨wk, hwk⟩ : ∃ x, Lib.idxOfS dayB ⟨q1.toArray⟩ = x := ⟨_, rfl⟩
      rw [hwk] at HI2 ⊢
      clear hwk
      have hgb2 := grown_of_below hb
      replace HB := Lib.hid (HB.out.trans (hb.mono (Nat.le_of_lt HF.out.lt)))
      replace HD := Lib.hid (HD.out.step hb)
      replace HF := Lib.hid (HF.out.step hb)
      replace RG1 := Lib.hid (RG1.out.kept hgb2 (by simp) (by simp))
      clear hb hgb2
      have f0 := HD.out.cell 0
      have f1 := HD.out.cell 1
      have f2 := HD.out.cell 2
      have z0 := HD.out.frz 0
      have z1 := HD.out.frz 1
      have z2 := HD.out.frz 2
      have zl := HD.out.lt
      simp at f0 f1 f2
      go_wp2_with fail
      have RG2 := (RG1.out.kept (grown_set w3 ⟨g + 1, 0, none⟩ (.int .i64 3)) (by simp; omega) (by simp; omega)).kept (grown_set _ ⟨g + 1, 1, none⟩ (.int .i64 wk)) (by simp; omega) (by simp; omega)
      exact ⟨⟨_, _, _, _, _, rfl, RG2, (HF.out.far (a := ⟨g + 1, 0, none⟩) (by show g ≠ g + 1; omega) _).far (a := ⟨g + 1, 1, none⟩) (by show g ≠ g + 1; omega) _, (HD.out.set 0 (.int .i64 3)).set 1 (.int .i64 wk), (HB.out.setCell (show g ≤ (⟨g + 1, 0, none⟩ : Addr).block from Nat.le_succ g) _).setCell (show g ≤ (⟨g + 1, 1, none⟩ : Addr).block from Nat.le_succ g) _, hsz, HI2.out⟩, by rw [RG2.left_eq]; exact HLT.out⟩
    ·skip
     have HC := Lib.hid ((HX.out.to HB.out HG.out).cut s ⟨#[60, 61]⟩ hs)
     have hlen := cut_len s.data.toList [60, 61]
     obtain ⟨q, hq⟩ : ∃ q, Lib.cut s.data.toList (⟨#[60, 61]⟩ : ByteArray).data.toList = q := ⟨_, rfl⟩
     have hq' : Lib.cut s.data.toList [60, 61] = q := hq
     rw [hq] at HC
     rw [hq'] at hlen
     clear hq
     obtain ⟨q1, q2, q3⟩ := q
     have hsz : (⟨q2.toArray⟩ : ByteArray).size ≤ 4294967281 := by rw [Lib.size_eq, back_arr]; have e2 := Lib.size_eq s; have e3 : q2.length ≤ s.data.toList.length := hlen; omega
     clear hlen
     go_wp2_with fail
     refine HC.out.mono ?_
     rintro e w2 ⟨rfl, hb⟩
     clear HC
     have hgb2 := grown_of_below hb
     replace HB := Lib.hid (HB.out.trans (hb.mono (Nat.le_of_lt HF.out.lt)))
     replace HD := Lib.hid (HD.out.step hb)
     replace HF := Lib.hid (HF.out.step hb)
     replace RG1 := Lib.hid (RG1.out.kept hgb2 (by simp) (by simp))
     clear hb hgb2 hen
     cases q3
     ·skip
      have HI2 := Lib.hid (ry_no (left' := fun z => left z && !z.sameKey (.int .i64 4)) HI.out (fun _ => rfl) (Or.inr ⟨rfl, rfl⟩) (by rw [hq']))
      clear hq'
      go_wp2_with fail
      exact ⟨⟨r, a, b, _, _, rfl, RG1.out, HF.out, HD.out, HB.out, hrs, HI2.out⟩, by rw [RG1.out.left_eq]; exact HLT.out⟩
     ·skip
      have HI2 := Lib.hid (ry_yes (left' := fun z => left z && !z.sameKey (.int .i64 4)) (Or.inr ⟨rfl, rfl⟩) hq')
      clear hq'
      go_wp2_with fail
      refine (d_weekday _ _).mono ?_
      rintro e w3 ⟨rfl, hb⟩
      obtain ⟨wk, hwk⟩ : ∃ x, Lib.idxOfS dayB ⟨q1.toArray⟩ = x := ⟨_, rfl⟩
      rw [hwk] at HI2 ⊢
      clear hwk
      have hgb2 := grown_of_below hb
      replace HB := Lib.hid (HB.out.trans (hb.mono (Nat.le_of_lt HF.out.lt)))
      replace HD := Lib.hid (HD.out.step hb)
      replace HF := Lib.hid (HF.out.step hb)
      replace RG1 := Lib.hid (RG1.out.kept hgb2 (by simp) (by simp))
      clear hb hgb2
      have f0 := HD.out.cell 0
      have f1 := HD.out.cell 1
      have f2 := HD.out.cell 2
      have z0 := HD.out.frz 0
      have z1 := HD.out.frz 1
      have z2 := HD.out.frz 2
      have zl := HD.out.lt
      simp at f0 f1 f2
      go_wp2_with fail
      have RG2 := (RG1.out.kept (grown_set w3 ⟨g + 1, 0, none⟩ (.int .i64 4)) (by simp; omega) (by simp; omega)).kept (grown_set _ ⟨g + 1, 1, none⟩ (.int .i64 wk)) (by simp; omega) (by simp; omega)
      exact ⟨⟨_, _, _, _, _, rfl, RG2, (HF.out.far (a := ⟨g + 1, 0, none⟩) (by show g ≠ g + 1; omega) _).far (a := ⟨g + 1, 1, none⟩) (by show g ≠ g + 1; omega) _, (HD.out.set 0 (.int .i64 4)).set 1 (.int .i64 wk), (HB.out.setCell (show g ≤ (⟨g + 1, 0, none⟩ : Addr).block from Nat.le_succ g) _).setCell (show g ≤ (⟨g + 1, 1, none⟩ : Addr).block from Nat.le_succ g) _, hsz, HI2.out⟩, by rw [RG2.left_eq]; exact HLT.out⟩
end Go.Proofs.YthppifcggmdmoaaGreatDoor

