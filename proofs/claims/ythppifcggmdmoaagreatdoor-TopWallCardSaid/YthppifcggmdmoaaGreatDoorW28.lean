/- Part 28 of the proof of TopWall: no condition; what its declarations say stands at each. -/
import Derived.Test.YthppifcggmdmoaaGreatDoorW27
namespace Go.Proofs.YthppifcggmdmoaaGreatDoor
open Go.RowKit
set_option linter.unusedVariables false
set_option linter.unusedSimpArgs false
attribute [local go_sem ↓] Go.wp_at_zero Go.wp_at_succ
theorem bk3 {W : World} {b : Nat} {t : TypeId} {u0 u1 u2 x y z : Value} (h : Blk W b t #[u0, u1, u2]) : Blk (((W.setCell ⟨b, 0, none⟩ x).setCell ⟨b, 1, none⟩ y).setCell ⟨b, 2, none⟩ z) b t #[x, y, z] := ((h.set 0 x).set 1 y).set 2 z
theorem line_len {F : Rdr} {st st' : PbS} {s : ByteArray} {m : Nat} (G : PbG st) (h : LineIs F st s (some st')) (hb : st.rs.length ≤ m ∧ st.zs.length ≤ m ∧ st.ls.length ≤ m ∧ ∀ z ∈ st.zs, z.2.length ≤ m) : st'.rs.length ≤ m + 1 ∧ st'.zs.length ≤ m + 1 ∧ st'.ls.length ≤ m + 1 ∧ ∀ z ∈ st'.zs, z.2.length ≤ m + 1 := by
 obtain ⟨b1, b2, b3, b4⟩ := hb
 rcases h with ⟨a, b, e⟩ | ⟨a, b, e⟩ | ⟨a, b, e⟩ | ⟨a, b, e⟩ | ⟨e, _⟩
 ·cases e
  exact ⟨by simp; omega, by show st.zs.length ≤ m + 1; omega, by show st.ls.length ≤ m + 1; omega, fun z hz => Nat.le_succ_of_le (b4 z hz)⟩
 ·cases e
  refine ⟨by show st.rs.length ≤ m + 1; omega, by simp; omega, by show st.ls.length ≤ m + 1; omega, fun z hz => ?_⟩
  rcases List.mem_append.1 hz with hz | hz
  ·exact Nat.le_succ_of_le (b4 z hz)
  ·rw [List.mem_singleton.1 hz]; exact Nat.zero_le _
 ·cases e
  exact ⟨by show st.rs.length ≤ m + 1; omega, by show st.zs.length ≤ m + 1; omega, by simp; omega, fun z hz => Nat.le_succ_of_le (b4 z hz)⟩
 ·cases e
  have hne := (G.op b.1).2
  refine ⟨by show st.rs.length ≤ m + 1; omega, ?_, by show st.ls.length ≤ m + 1; omega, fun z hz => ?_⟩
  ·show (addEra st.zs _).length ≤ m + 1
   have : 0 < st.zs.length := List.length_pos_iff.2 hne
   simp [addEra]; omega
  ·rcases add_mem hz hne with hz | ⟨q, hq, rfl⟩
   ·exact Nat.le_succ_of_le (b4 z hz)
   ·have := b4 q hq; simp; omega
 ·cases e
theorem ran_succ {F : Rdr} {L : List ByteArray} {k : Nat} {a b : PbS} (h : Ran F L k a) (hl : LineIs F a (L.getD k eMT) (some b)) : Ran F L (k + 1) b := ⟨a, h, hl⟩
def BpPost (F : Rdr) (s : ByteArray) (w : World) (e : Ending) (w' : World) : Prop :=
 ∃ (st : PbS) (n er : Int) (D : BkD), e = .returned (.tuple #[.agg D.v, .int .i64 n, .int .i64 er]) ∧ BkIs F s st n er ∧ (D.rs = st.rs ∧ D.zs.map zoP = st.zs ∧ D.ls = st.ls) ∧ BkOk w' w'.heap.size D ∧ Below w.heap.size w w'
structure BpSt (F : Rdr) (L : List ByteArray) (k : Nat) (st : PbS) (zs : List ZoT) : Prop where
 ran : Ran F L k st
 g : PbG st
 hz : zs.map zoP = st.zs
 len : st.rs.length ≤ k ∧ st.zs.length ≤ k ∧ st.ls.length ≤ k ∧ ∀ z ∈ st.zs, z.2.length ≤ k
theorem BpSt.next {F : Rdr} {L : List ByteArray} {k : Nat} {st st' : PbS} {zs zs' : List ZoT} {x : ByteArray} (h : BpSt F L k st zs) (hx : L.getD k eMT = x) (hs : x.size ≤ 60000) (hl : LineIs F st x (some st')) (hz : zs'.map zoP = st'.zs) : BpSt F L (k + 1) st' zs' :=
 ⟨ran_succ h.ran (by rw [hx]; exact hl), h.g.step (Nat.le_trans hs (by unfold maxLen; omega)) hl, hz, line_len h.g hl h.len⟩
theorem BpSt.small {F : Rdr} {L : List ByteArray} {k : Nat} {st : PbS} {zs : List ZoT} (h : BpSt F L k st zs) (hk : k ≤ 100000) : st.rs.length ≤ 100000 ∧ zs.length ≤ 100000 ∧ st.ls.length ≤ 100000 ∧ ∀ z ∈ zs, z.eras.length ≤ 100000 := by
 obtain ⟨_, _, e, a, b, c, d⟩ := h
 have hz : zs.length = st.zs.length := by rw [← e, List.length_map]
 exact ⟨by omega, by omega, by omega, fun z hz => by have := d (zoP z) (by rw [← e]; exact List.mem_map.2 ⟨z, hz, rfl⟩); unfold zoP at this; simp only at this; omega⟩
theorem line_next {F : Rdr} {L : List ByteArray} {k : Nat} {st : PbS} {zs : List ZoT} {x : ByteArray} {W1 wr w5 : World} {base rd : Nat} {RV ZV LV : Value} (h : BpSt F L k st zs) (hW : BpW W1 wr base rd RV ZV LV (stgV st) st.rs zs st.ls) (hx : L.getD k eMT = x) (hs : x.size ≤ 60000)
  (g : ∃ (st' : PbS) (RV ZV LV : Value) (zs' : List ZoT), LineIs F st x (some st') ∧ zs'.map zoP = st'.zs ∧ BpW wr w5 base rd RV ZV LV (stgV st') st'.rs zs' st'.ls) :
  ∃ (st' : PbS) (RV ZV LV : Value) (zs' : List ZoT), BpSt F L (k + 1) st' zs' ∧ BpW W1 w5 base rd RV ZV LV (stgV st') st'.rs zs' st'.ls := by
 obtain ⟨st', RV', ZV', LV', zs', hl, hz', hW'⟩ := g
 exact ⟨st', RV', ZV', LV', zs', h.next hx hs hl hz', hW.trans hW'⟩
theorem pbm3 {W : World} {base g : Nat} {RV ZV LV u0 u1 u2 : Value} {rs : List RuT} {zs : List ZoT} {ls : List LkT} (h : PbM W base RV ZV LV rs zs ls) (hT : Blk W g 26 #[u0, u1, u2]) (x y z : Value) : PbM (((W.setCell ⟨g, 0, none⟩ x).setCell ⟨g, 1, none⟩ y).setCell ⟨g, 2, none⟩ z) base RV ZV LV rs zs ls :=
 ((h.off hT (by decide) (by decide) (by decide) (by decide) 0 x).off (hT.set 0 x) (by decide) (by decide) (by decide) (by decide) 1 y).off ((hT.set 0 x).set 1 y) (by decide) (by decide) (by decide) (by decide) 2 z
theorem PbG.shut {st : PbS} {zs : List ZoT} (G : PbG st) (hz : zs.map zoP = st.zs) : PbG ⟨st.rs, zs.map zoP, st.ls, false⟩ :=
 ⟨fun h => (by cases h), G.ru, fun z h => G.zo z (by rw [← hz]; exact h), G.lk⟩
theorem chk_eq {st : PbS} {zs : List ZoT} (hz : zs.map zoP = st.zs) : bookE st.rs zs st.ls = chkE st := by
 unfold chkE
 exact bookE_map (by rw [hz, toZ_zoP])
theorem bp_good {F : Rdr} {s : ByteArray} {w w' : World} {base : Nat} {RV ZV LV : Value} {st : PbS} {zs : List ZoT} (h : BkIs F s st 0 0) (G : PbG st) (hz : zs.map zoP = st.zs) (hM : PbM w' base RV ZV LV st.rs zs st.ls) (hb : Below w.heap.size w w') : BpPost F s w (.returned (.tuple #[.agg #[RV, ZV, LV], .int .i64 0, .int .i64 0])) w' := by
 obtain ⟨D, e1, e2, e3, e4, e5, e6, hD⟩ := hM.book (G.shut hz)
 exact ⟨st, 0, 0, D, by unfold BkD.v; rw [← e4, ← e5, ← e6], h, ⟨e1, by rw [e2]; exact hz, e3⟩, hD, hb⟩
theorem book_call {w : World} {base : Nat} {RV ZV LV : Value} {st : PbS} {zs : List ZoT} (G : PbG st) (hz : zs.map zoP = st.zs) (hM : PbM w base RV ZV LV st.rs zs st.ls) (HI : EraIn w) :
  Calls Tryz.prog 22 #[.agg #[RV, ZV, LV]] w fun e w' => e = .returned (.int .i64 (chkE st)) ∧ Below w.heap.size w w' := by
 obtain ⟨⟨AR, AZ, AL, cR, cZ, cL, rs', zs', ls'⟩, e1, e2, e3, e4, e5, e6, hD⟩ := hM.book (G.shut hz)
 simp only at e1 e2 e3 e4 e5 e6
 subst e1 e2 e3 e4 e5 e6
 have h := c_Check' AR AZ AL cR cZ cL st.rs zs' st.ls w hD HI
 rw [chk_eq hz] at h
 exact h
theorem sl_form {w : World} {base e size n : Nat} {v : Value} {xs : List Value} (h : w.ownsRow base e size v n xs) : ∃ A c, v = .slice A n c := by
 rcases h.2 with ⟨a, b⟩ | ⟨g, c, cur, a1, _⟩
 ·exact ⟨none, 0, by rw [a, b]⟩
 ·exact ⟨_, c, a1⟩
def bk0 : BkD := ⟨none, none, none, 0, 0, 0, [], [], []⟩
theorem bk0_ok (w : World) : BkOk w w.heap.size bk0 := ⟨SlAt.none_ _ _ _ _, SlAt.none_ _ _ _ _, SlAt.none_ _ _ _ _, Nat.le_refl _, Nat.le_refl _, Nat.le_refl _, Nat.zero_le _, Nat.zero_le _, Nat.zero_le _, fun r h => (by cases h), fun r h => (by cases h), fun r h => (by cases h)⟩
theorem bp_bad {F : Rdr} {s : ByteArray} {w w' : World} {n er : Int} (h : BkIs F s pb0 n er) (hb : Below w.heap.size w w') : BpPost F s w (.returned (.tuple #[.agg #[.slice none 0 0, .slice none 0 0, .slice none 0 0], .int .i64 n, .int .i64 er])) w' :=
 ⟨pb0, n, er, bk0, rfl, h, ⟨rfl, rfl, rfl⟩, bk0_ok w', hb⟩
set_option maxRecDepth 100000 in
set_option maxHeartbeats 4000000 in
theorem b_Parse_short (F : Rdr) (s : ByteArray) (w : World) (h : 60000 < s.size ∨ s.size = 0) :
  Calls Tryz.prog 6 #[.string s] w (BpPost F s w) := by
 have HT := Lib.hid (Blk.new w #[.slice none 0 0, .slice none 0 0, .slice none 0 0] 26)
 have HB := Lib.hid ((Below.refl w.heap.size w).alloc (Nat.le_refl _) (.cells #[.slice none 0 0, .slice none 0 0, .slice none 0 0] 26))
 obtain ⟨W, hW⟩ : ∃ W, w.alloc (.cells #[.slice none 0 0, .slice none 0 0, .slice none 0 0] 26) = W := ⟨_, rfl⟩
 rw [hW] at HT HB
 by_cases h1 : 60000 < s.size
 ·have h1' : (60000 : Int) < (s.size : Int) := by omega
  have HR := Lib.hid (show BkIs F s pb0 0 2 from Or.inl ⟨h1, rfl, rfl, rfl⟩)
  clear h h1
  have tr := HT.out.frz
  have tl := HT.out.lt
  have tc := HT.out.cell
  go_enter Tryz.func6, Tryz.ntmps6
  go_wp2_with fail
  have HF := Lib.hid (bk3 HT.out (x := .slice none 0 0) (y := .slice none 0 0) (z := .slice none 0 0))
  have HBF := Lib.hid (show Below w.heap.size w (((W.setCell ⟨w.heap.size, 0, none⟩ (.slice none 0 0)).setCell ⟨w.heap.size, 1, none⟩ (.slice none 0 0)).setCell ⟨w.heap.size, 2, none⟩ (.slice none 0 0)) from below3 HB.out (Nat.le_refl _))
  obtain ⟨U, hU⟩ : ∃ U, (((W.setCell ⟨w.heap.size, 0, none⟩ (.slice none 0 0)).setCell ⟨w.heap.size, 1, none⟩ (.slice none 0 0)).setCell ⟨w.heap.size, 2, none⟩ (.slice none 0 0)) = U := ⟨_, rfl⟩
  rw [hU] at HF HBF
  try rw [hU]
  have hf := HF.out.cell
  exact bodyPost_ret (v := .tuple #[.agg #[.slice none 0 0, .slice none 0 0, .slice none 0 0], .int .i64 0, .int .i64 2]) (by simp [results, Tryz.results6, go_sem, hf]) rfl (bp_bad HR.out HBF.out)
 ·have h0 : s.size = 0 := by omega
  have h1' : ¬ (60000 : Int) < (s.size : Int) := by omega
  have HR := Lib.hid (show BkIs F s pb0 0 0 from Or.inr (Or.inl ⟨h0, rfl, rfl, rfl⟩))
  have hem : s.toList.isEmpty = true := by
   rw [ByteArray.toList_eq]
   have e : s.data.toList.length = 0 := by rw [← Lib.size_eq]; exact h0
   rw [List.length_eq_zero_iff.1 e]; rfl
  clear h h1 h0
  have tr := HT.out.frz
  have tl := HT.out.lt
  have tc := HT.out.cell
  go_enter Tryz.func6, Tryz.ntmps6
  go_wp2_with fail
  have HF := Lib.hid (bk3 HT.out (x := .slice none 0 0) (y := .slice none 0 0) (z := .slice none 0 0))
  have HBF := Lib.hid (show Below w.heap.size w (((W.setCell ⟨w.heap.size, 0, none⟩ (.slice none 0 0)).setCell ⟨w.heap.size, 1, none⟩ (.slice none 0 0)).setCell ⟨w.heap.size, 2, none⟩ (.slice none 0 0)) from below3 HB.out (Nat.le_refl _))
  obtain ⟨U, hU⟩ : ∃ U, (((W.setCell ⟨w.heap.size, 0, none⟩ (.slice none 0 0)).setCell ⟨w.heap.size, 1, none⟩ (.slice none 0 0)).setCell ⟨w.heap.size, 2, none⟩ (.slice none 0 0)) = U := ⟨_, rfl⟩
  rw [hU] at HF HBF
  try rw [hU]
  have hf := HF.out.cell
  exact bodyPost_ret (v := .tuple #[.agg #[.slice none 0 0, .slice none 0 0, .slice none 0 0], .int .i64 0, .int .i64 0]) (by simp [results, Tryz.results6, go_sem, hf]) rfl (bp_bad HR.out HBF.out)
set_option maxRecDepth 100000 in
set_option maxHeartbeats 8000000 in
theorem b_Parse_long (F : Rdr) (s : ByteArray) (w : World) (h0 : 0 < s.size) (h1 : s.size ≤ 60000) (P : RpW w) :
  Calls Tryz.prog 6 #[.string s] w (BpPost F s w) := by
 have h1' : ¬ (60000 : Int) < (s.size : Int) := by omega
 have hem : s.toList.isEmpty = false := by
  rw [ByteArray.toList_eq]
  cases e : s.data.toList with
  | nil => have e2 : s.size = s.data.toList.length := Lib.size_eq s; rw [e, List.length_nil] at e2; omega
  | cons a b => rfl
 have HP := Lib.hid P
 clear P
 have hb1 := (Below.refl w.heap.size w).alloc (Nat.le_refl _) (.cells #[.slice none 0 0, .slice none 0 0, .slice none 0 0] 26)
 have hb2 := hb1.alloc (by rw [size_alloc]; omega) (.cells #[.slice none 0 0, .slice none 0 0, .slice none 0 0, .int .i64 0] 63)
 have k1 := (Blk.new w #[.slice none 0 0, .slice none 0 0, .slice none 0 0] 26).alloc (.cells #[.slice none 0 0, .slice none 0 0, .slice none 0 0, .int .i64 0] 63)
 have k2 := Blk.new (w.alloc (.cells #[.slice none 0 0, .slice none 0 0, .slice none 0 0] 26)) #[.slice none 0 0, .slice none 0 0, .slice none 0 0, .int .i64 0] 63
 rw [size_alloc] at k2
 obtain ⟨W, hW⟩ : ∃ W, (w.alloc (.cells #[.slice none 0 0, .slice none 0 0, .slice none 0 0] 26)).alloc (.cells #[.slice none 0 0, .slice none 0 0, .slice none 0 0, .int .i64 0] 63) = W := ⟨_, rfl⟩
 rw [hW] at hb2 k1 k2
 have HT := Lib.hid k1
 have HR := Lib.hid k2
 have HB := Lib.hid hb2
 clear hb1 hb2 k1 k2
 go_enter Tryz.func6, Tryz.ntmps6
 go_wp2_with fail
 refine (split_one s 10 (by omega) _).mono ?_
 rintro e w1 ⟨L, hL, rfl, rfl⟩
 clear hW
 have HLs := Lib.hid (wordB_of hL)
 clear hL
 obtain ⟨rd, hrd⟩ : ∃ rd, w.heap.size + 1 = rd := ⟨_, rfl⟩
 have HRd := Lib.hid hrd
 have hV := (Below.refl W.heap.size W).alloc (Nat.le_refl _) (.cells (L.map Value.string).toArray 9)
 have HX := Lib.hid (Blk.new W (L.map Value.string).toArray 9)
 replace HT := Lib.hid (HT.out.step hV)
 replace HR := Lib.hid (HR.out.step hV)
 replace HB := Lib.hid (HB.out.trans (hV.mono HB.out.size))
 clear hV
 obtain ⟨W1, hW1⟩ : ∃ W1, W.alloc (.cells (L.map Value.string).toArray 9) = W1 := ⟨_, rfl⟩
 obtain ⟨Lb, hLb⟩ : ∃ Lb, W.heap.size = Lb := ⟨_, rfl⟩
 rw [hW1] at HX HT HR HB ⊢
 rw [hLb] at HX ⊢
 rw [hrd] at HR ⊢
 clear hW1 hLb
 have HW := Lib.hid (show BpW W1 W1 rd rd (.slice none 0 0) (.slice none 0 0) (.slice none 0 0) (stgV pb0) pb0.rs [] pb0.ls from ⟨Below.refl _ _, HR.out, PbM.nil _ _, fun _ _ h => h, Nat.le_of_lt HR.out.lt, Nat.le_refl _⟩)
 clear hrd
 have HLn := Lib.hid (show L.length ≤ 60001 by
  have h2 := lSplit_many 10 s.data.toList
  have e2 : s.size = s.data.toList.length := Lib.size_eq s
  rw [HLs.out]; unfold wordB; rw [List.length_map]; omega)
 go_wp2_with fail
 go_loopw [25] (fun i wr => ∃ (k : Nat) (st : PbS) (RV ZV LV : Value) (zs : List ZoT), k ≤ L.length ∧ i = .int .i64 k ∧ Hid (BpSt F L k st zs) ∧ Hid (BpW W1 wr rd rd RV ZV LV (stgV st) st.rs zs st.ls)) (fun i _ => L.length - (intOf i).toNat)
 case atStart => exact ⟨0, pb0, _, _, _, [], Nat.zero_le _, rfl, Lib.hid ⟨rfl, pbg_zero, rfl, Nat.le_refl _, Nat.le_refl _, Nat.le_refl _, fun z h => (by cases h)⟩, HW⟩
 case round =>
  clear HW HR
  obtain ⟨k, st, RV, ZV, LV, zs, hk, rfl, HSt, HW⟩ := hrel
  have HTr := Lib.hid (HT.out.below HW.out.L (by have := HRd.out; omega))
  have HBr := Lib.hid (HB.out.trans (HW.out.L.mono (by have := HRd.out; omega)))
  have HLt := Lib.hid (show w.heap.size < rd by have := HRd.out; omega)
  have hwk : IntKind.i64.wrap ((k : Int) + 1) = (k : Int) + 1 := IntWalk.i64_in _ (by have := HLn.out; omega)
  by_cases hlt : k < L.length
  ·have c0 := wd_at (HW.out.S Lb _ HX.out) hlt
   have xl := (HW.out.S Lb _ HX.out).lt
   have hxs : (L.getD k eMT).size ≤ 60000 := by rw [HLs.out]; exact Nat.le_trans (wordB_getD k) h1
   have HBl := Lib.hid (b_line F wr rd rd RV ZV LV st zs (L.getD k eMT) HSt.out.g HSt.out.hz HW.out.here hxs (HSt.out.small (by have := HLn.out; omega)) (fun V hb => HP.out.on (HBr.out.trans (hb.mono (by have := HRd.out; omega)))))
   obtain ⟨x, hx⟩ : ∃ x, L.getD k eMT = x := ⟨_, rfl⟩
   rw [hx] at c0 HBl
   have HXx := Lib.hid hx
   have HXs := Lib.hid (show x.size ≤ 60000 by rw [← hx]; exact hxs)
   have hi1 : (0 : Int) ≤ (k : Int) := by omega
   have hi2 : (k : Int) < (L.length : Int) := by omega
   clear hx hxs
   go_wp2_with fail
   refine HBl.out.mono ?_
   rintro e w5 ⟨ok, rfl, hb, g1, g2⟩
   clear HBl c0 xl
   cases ok with
   | true =>
    have hG := g1 rfl
    have hN := line_next HSt.out HW.out HXx.out HXs.out hG
    clear g1 g2 hG hb HSt HW HTr HBr HLt HP HT HB HXs HXx
    obtain ⟨st', RV', ZV', LV', zs', hS', hW'⟩ := hN
    have HS2 := Lib.hid hS'
    have HW2 := Lib.hid hW'
    clear hS' hW'
    go_wp2_with fail
    exact ⟨⟨k + 1, st', RV', ZV', LV', zs', by omega, by go_num, HS2, HW2⟩, by simp only [intOf]; omega⟩
   | false =>
    have hl := g2 rfl
    have HI := Lib.hid (show BkIs F s pb0 ((k : Int) + 1) 3 from Or.inr (Or.inr ⟨⟨h0, h1⟩, Or.inl ⟨k, st, by rw [← HLs.out]; exact hlt, by rw [← HLs.out]; exact HSt.out.ran, by rw [← HLs.out, HXx.out]; exact hl, rfl, rfl, rfl⟩⟩))
    have HT5 := Lib.hid (HTr.out.below hb HLt.out)
    have HB5 := Lib.hid (HBr.out.trans (hb.mono (Nat.le_of_lt HLt.out)))
    clear hl g1 g2 hb HTr HBr HW HSt
    have tr := HT5.out.frz
    have tl := HT5.out.lt
    have tc := HT5.out.cell
    go_wp2_with fail
    have HF := Lib.hid (bk3 HT5.out (x := .slice none 0 0) (y := .slice none 0 0) (z := .slice none 0 0))
    have HBF := Lib.hid (show Below w.heap.size w (((w5.setCell ⟨w.heap.size, 0, none⟩ (.slice none 0 0)).setCell ⟨w.heap.size, 1, none⟩ (.slice none 0 0)).setCell ⟨w.heap.size, 2, none⟩ (.slice none 0 0)) from below3 HB5.out (Nat.le_refl _))
    obtain ⟨U, hU⟩ : ∃ U, (((w5.setCell ⟨w.heap.size, 0, none⟩ (.slice none 0 0)).setCell ⟨w.heap.size, 1, none⟩ (.slice none 0 0)).setCell ⟨w.heap.size, 2, none⟩ (.slice none 0 0)) = U := ⟨_, rfl⟩
    rw [hU] at HF HBF
    try rw [hU]
    have hf := HF.out.cell
    exact bodyPost_ret (v := .tuple #[.agg #[.slice none 0 0, .slice none 0 0, .slice none 0 0], .int .i64 ((k : Int) + 1), .int .i64 3]) (by simp [results, Tryz.results6, go_sem, hf]) rfl (bp_bad HI.out HBF.out)
  ·obtain rfl : k = L.length := by omega
   have hi2 : ¬ ((L.length : Int) < (L.length : Int)) := by omega
   clear hlt hk
   have rc := HW.out.R.cell
   have rl := HW.out.R.lt
   obtain ⟨sg, hsg⟩ : ∃ sg, stgV st = sg := ⟨_, rfl⟩
   have HSg := Lib.hid hsg
   rw [hsg] at HW rc
   clear hsg
   by_cases h2 : sg = 2
   ·have h2' : (sg == 2) = true := beq_iff_eq.2 h2
    have HI := Lib.hid (show BkIs F s pb0 ((L.length : Int) + 1) 3 from Or.inr (Or.inr ⟨⟨h0, h1⟩, Or.inr ⟨st, by rw [← HLs.out]; exact HSt.out.ran, Or.inl ⟨stg_two.1 (HSg.out.trans h2), rfl, by rw [← HLs.out], rfl⟩⟩⟩))
    clear h2
    have tr := HTr.out.frz
    have tl := HTr.out.lt
    have tc := HTr.out.cell
    go_wp2_with fail
    have HF := Lib.hid (bk3 HTr.out (x := .slice none 0 0) (y := .slice none 0 0) (z := .slice none 0 0))
    have HBF := Lib.hid (show Below w.heap.size w (((wr.setCell ⟨w.heap.size, 0, none⟩ (.slice none 0 0)).setCell ⟨w.heap.size, 1, none⟩ (.slice none 0 0)).setCell ⟨w.heap.size, 2, none⟩ (.slice none 0 0)) from below3 HBr.out (Nat.le_refl _))
    obtain ⟨U, hU⟩ : ∃ U, (((wr.setCell ⟨w.heap.size, 0, none⟩ (.slice none 0 0)).setCell ⟨w.heap.size, 1, none⟩ (.slice none 0 0)).setCell ⟨w.heap.size, 2, none⟩ (.slice none 0 0)) = U := ⟨_, rfl⟩
    rw [hU] at HF HBF
    try rw [hU]
    have hf := HF.out.cell
    exact bodyPost_ret (v := .tuple #[.agg #[.slice none 0 0, .slice none 0 0, .slice none 0 0], .int .i64 ((L.length : Int) + 1), .int .i64 3]) (by simp [results, Tryz.results6, go_sem, hf]) rfl (bp_bad HI.out HBF.out)
   ·have h2' : (sg == 2) = false := beq_eq_false_iff_ne.2 h2
    have HO := Lib.hid (op_no (st := st) (fun h => h2 (HSg.out.symm.trans h)))
    have HC := Lib.hid (book_call HSt.out.g HSt.out.hz HW.out.M (fun y hy => (HP.out.on HBr.out).S.it y (by omega)))
    clear h2
    go_wp2_with fail
    refine HC.out.mono ?_
    rintro e w6 ⟨rfl, hb⟩
    have HT6 := Lib.hid (HTr.out.step hb)
    have HB6 := Lib.hid (HBr.out.trans (hb.mono HBr.out.size))
    have HM6 := Lib.hid (HW.out.M.step hb)
    have HR6 := Lib.hid (HW.out.R.step hb)
    clear hb rc rl HC HW HTr HBr
    obtain ⟨ce, hce⟩ : ∃ ce, chkE st = ce := ⟨_, rfl⟩
    have HCe := Lib.hid hce
    rw [hce]
    clear hce
    have tr := HT6.out.frz
    have tl := HT6.out.lt
    have tc := HT6.out.cell
    by_cases h3 : ce = 0
    ·have HI := Lib.hid (show BkIs F s st 0 0 from Or.inr (Or.inr ⟨⟨h0, h1⟩, Or.inr ⟨st, by rw [← HLs.out]; exact HSt.out.ran, Or.inr (Or.inr ⟨HO.out, HCe.out.trans h3, rfl, rfl, rfl⟩)⟩⟩))
     subst h3
     obtain ⟨AR, cR, rfl⟩ := sl_form HM6.out.hR
     obtain ⟨AZ, cZ, rfl⟩ := sl_form HM6.out.hZ
     obtain ⟨AL, cL, rfl⟩ := sl_form HM6.out.hL
     have rc := HR6.out.cell
     have rl := HR6.out.lt
     go_wp2_with fail
     have HF := Lib.hid (bk3 HT6.out (x := .slice AR st.rs.length cR) (y := .slice AZ zs.length cZ) (z := .slice AL st.ls.length cL))
     have HBF := Lib.hid (show Below w.heap.size w (((w6.setCell ⟨w.heap.size, 0, none⟩ (.slice AR st.rs.length cR)).setCell ⟨w.heap.size, 1, none⟩ (.slice AZ zs.length cZ)).setCell ⟨w.heap.size, 2, none⟩ (.slice AL st.ls.length cL)) from below3 HB6.out (Nat.le_refl _))
     have HM7 := Lib.hid (pbm3 HM6.out HT6.out (.slice AR st.rs.length cR) (.slice AZ zs.length cZ) (.slice AL st.ls.length cL))
     obtain ⟨U, hU⟩ : ∃ U, (((w6.setCell ⟨w.heap.size, 0, none⟩ (.slice AR st.rs.length cR)).setCell ⟨w.heap.size, 1, none⟩ (.slice AZ zs.length cZ)).setCell ⟨w.heap.size, 2, none⟩ (.slice AL st.ls.length cL)) = U := ⟨_, rfl⟩
     rw [hU] at HF HBF HM7
     try rw [hU]
     have hf := HF.out.cell
     exact bodyPost_ret (v := .tuple #[.agg #[.slice AR st.rs.length cR, .slice AZ zs.length cZ, .slice AL st.ls.length cL], .int .i64 0, .int .i64 0]) (by simp [results, Tryz.results6, go_sem, hf]) rfl (bp_good HI.out HSt.out.g HSt.out.hz HM7.out HBF.out)
    ·have h3' : (ce != 0) = true := bne_iff_ne.2 h3
     have HI := Lib.hid (show BkIs F s pb0 0 ce from Or.inr (Or.inr ⟨⟨h0, h1⟩, Or.inr ⟨st, by rw [← HLs.out]; exact HSt.out.ran, Or.inr (Or.inl ⟨HO.out, by rw [HCe.out]; exact h3, rfl, rfl, HCe.out.symm⟩)⟩⟩))
     clear h3
     go_wp2_with fail
     have HF := Lib.hid (bk3 HT6.out (x := .slice none 0 0) (y := .slice none 0 0) (z := .slice none 0 0))
     have HBF := Lib.hid (show Below w.heap.size w (((w6.setCell ⟨w.heap.size, 0, none⟩ (.slice none 0 0)).setCell ⟨w.heap.size, 1, none⟩ (.slice none 0 0)).setCell ⟨w.heap.size, 2, none⟩ (.slice none 0 0)) from below3 HB6.out (Nat.le_refl _))
     obtain ⟨U, hU⟩ : ∃ U, (((w6.setCell ⟨w.heap.size, 0, none⟩ (.slice none 0 0)).setCell ⟨w.heap.size, 1, none⟩ (.slice none 0 0)).setCell ⟨w.heap.size, 2, none⟩ (.slice none 0 0)) = U := ⟨_, rfl⟩
     rw [hU] at HF HBF
     try rw [hU]
     have hf := HF.out.cell
     exact bodyPost_ret (v := .tuple #[.agg #[.slice none 0 0, .slice none 0 0, .slice none 0 0], .int .i64 0, .int .i64 ce]) (by simp [results, Tryz.results6, go_sem, hf]) rfl (bp_bad HI.out HBF.out)
theorem b_Parse (F : Rdr) (s : ByteArray) (w : World) (P : RpW w) : Calls Tryz.prog 6 #[.string s] w (BpPost F s w) := by
 by_cases h : 60000 < s.size ∨ s.size = 0
 ·exact b_Parse_short F s w h
 ·exact b_Parse_long F s w (by omega) (by omega) P
end Go.Proofs.YthppifcggmdmoaaGreatDoor

