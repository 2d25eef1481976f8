/- Part 27 of the proof of TopWall: no condition; what its declarations say stands at each. -/
import Derived.Test.YthppifcggmdmoaaGreatDoorW26
namespace Go.Proofs.YthppifcggmdmoaaGreatDoor
open Go.RowKit
set_option linter.unusedVariables false
set_option linter.unusedSimpArgs false
attribute [local go_sem ↓] Go.wp_at_zero Go.wp_at_succ
theorem bw_list : rULE.toList = [114, 117, 108, 101] ∧ zONE.toList = [122, 111, 110, 101] ∧ eRA.toList = [101, 114, 97] ∧ lINK.toList = [108, 105, 110, 107] := by
 refine ⟨?_, ?_, ?_, ?_⟩ <;> (rw [ByteArray.toList_eq]; rfl)
def LinePost (F : Rdr) (w : World) (base rd : Nat) (st : PbS) (s : ByteArray) (e : Ending) (w' : World) : Prop :=
 ∃ ok : Bool, e = .returned (.bool ok) ∧ Below base w w' ∧
  (ok = true → ∃ (st' : PbS) (RV ZV LV : Value) (zs' : List ZoT), LineIs F st s (some st') ∧ zs'.map zoP = st'.zs ∧ BpW w w' base rd RV ZV LV (stgV st') st'.rs zs' st'.ls) ∧
  (ok = false → LineIs F st s none)
theorem line_no {F : Rdr} {w w' : World} {base rd : Nat} {st : PbS} {s : ByteArray} (hb : Below base w w') (h : LineIs F st s none) : LinePost F w base rd st s (.returned (.bool false)) w' :=
 ⟨false, rfl, hb, fun h => (by cases h), fun _ => h⟩
theorem line_yes {F : Rdr} {w w' : World} {base rd : Nat} {st st' : PbS} {s : ByteArray} {RV ZV LV : Value} {zs' : List ZoT} (h : LineIs F st s (some st')) (hz : zs'.map zoP = st'.zs) (hW : BpW w w' base rd RV ZV LV (stgV st') st'.rs zs' st'.ls) : LinePost F w base rd st s (.returned (.bool true)) w' :=
 ⟨true, rfl, hW.L, fun _ => ⟨st', RV, ZV, LV, zs', h, hz, hW⟩, fun h => (by cases h)⟩
theorem stg_zero {st : PbS} (G : PbG st) : stgV st = 0 ↔ (st.zs = [] ∧ st.ls = []) := by
 unfold stgV
 by_cases h1 : st.op = true
 ·rw [if_pos h1]
  exact ⟨fun h => (by cases h), fun h => absurd h.1 (G.op h1).2⟩
 ·rw [if_neg h1]
  by_cases h2 : st.ls = []
  ·rw [if_neg (fun h => h h2)]
   by_cases h3 : st.zs = []
   ·rw [if_neg (fun h => h h3)]; exact ⟨fun _ => ⟨h3, h2⟩, fun _ => rfl⟩
   ·rw [if_pos h3]; exact ⟨fun h => (by cases h), fun h => absurd h.1 h3⟩
  ·rw [if_pos h2]; exact ⟨fun h => (by cases h), fun h => absurd h.2 h2⟩
theorem stg_low {st : PbS} (G : PbG st) : stgV st ≤ 1 ↔ (st.op = false ∧ st.ls = []) := by
 unfold stgV
 by_cases h1 : st.op = true
 ·rw [if_pos h1]
  exact ⟨fun h => (by omega), fun h => (by rw [h1] at h; cases h.1)⟩
 ·rw [if_neg h1]
  have h1' : st.op = false := by simpa using h1
  by_cases h2 : st.ls = []
  ·rw [if_neg (fun h => h h2)]
   exact ⟨fun _ => ⟨h1', h2⟩, fun _ => (by split <;> omega)⟩
  ·rw [if_pos h2]; exact ⟨fun h => (by omega), fun h => absurd h.2 h2⟩
theorem stg_two {st : PbS} : stgV st = 2 ↔ st.op = true := by
 unfold stgV
 by_cases h1 : st.op = true
 ·rw [if_pos h1]; exact ⟨fun _ => h1, fun _ => rfl⟩
 ·rw [if_neg h1]
  refine ⟨fun h => ?_, fun h => absurd h h1⟩
  exfalso
  by_cases h2 : st.ls = []
  ·rw [if_neg (fun h => h h2)] at h
   by_cases h3 : st.zs = []
   ·rw [if_neg (fun h => h h3)] at h; omega
   ·rw [if_pos h3] at h; omega
  ·rw [if_pos h2] at h; omega
theorem stg_op {st : PbS} : st.op = decide (stgV st = 2) := by
 by_cases h : st.op = true
 ·rw [h]; exact (decide_eq_true (stg_two.2 h)).symm
 ·have h' : st.op = false := by simpa using h
  rw [h']; exact (decide_eq_false (fun h2 => h (stg_two.1 h2))).symm
theorem op_no {st : PbS} (h : ¬ stgV st = 2) : st.op = false := by
 cases e : st.op with
 | false => rfl
 | true => exact absurd (stg_two.2 e) h
theorem stg_link {st : PbS} (h : st.op = false) {x : LkT} : stgV ⟨st.rs, st.zs, st.ls ++ [x], st.op⟩ = 3 := by
 unfold stgV
 rw [if_neg (by rw [h]; decide), if_pos (by simp)]
theorem line_era {F : Rdr} {w w' : World} {base rd : Nat} {RV ZV LV : Value} {st : PbS} {zs : List ZoT} {s : ByteArray} {e : Ending} (G : PbG st) (hz : zs.map zoP = st.zs) (h0 : (wordB 32 s).getD 0 eMT = eRA) (h : EraPost F w base rd RV ZV LV st.op st.rs zs st.ls (wordB 32 s) e w') : LinePost F w base rd st s e w' := by
 obtain ⟨ok, rfl, hb, h1, h2⟩ := h
 obtain ⟨n1, n2, n3, n4, n5, n6⟩ := words_ne
 cases ok with
 | true =>
  obtain ⟨hc, Y, z, A, c, rfl, hW⟩ := h1 rfl
  refine line_yes (st' := ⟨st.rs, addEra st.zs (eraV F (wordB 32 s)), st.ls, decide ((wordB 32 s).length = 5)⟩) (Or.inr (Or.inr (Or.inr (Or.inl ⟨h0, hc, rfl⟩)))) (zs' := Y ++ [⟨z.name, A, c, z.eras ++ [eraV F (wordB 32 s)]⟩]) ?_ (RV := RV) (ZV := ZV) (LV := LV) ?_
  ·rw [← hz]
   simp [addEra, zoP]
  ·have hs : stgV ⟨st.rs, addEra st.zs (eraV F (wordB 32 s)), st.ls, decide ((wordB 32 s).length = 5)⟩ = if (wordB 32 s).length = 5 then 2 else 1 := by
    unfold stgV
    by_cases h5 : (wordB 32 s).length = 5
    ·rw [if_pos (decide_eq_true h5), if_pos h5]
    ·rw [if_neg (by simp [h5]), if_neg h5, if_neg (fun h => h (G.op hc.1).1), if_pos (by simp [addEra])]
   rw [hs]; exact hW
 | false =>
  refine line_no hb (Or.inr (Or.inr (Or.inr (Or.inr ⟨rfl, ?_, ?_, ?_, ?_⟩))))
  ·rintro ⟨q, _⟩; exact n3 (q.symm.trans h0)
  ·rintro ⟨q, _⟩; exact n5 (q.symm.trans h0)
  ·rintro ⟨q, _⟩; exact n6 (q.symm.trans h0)
  ·rintro ⟨_, q⟩; exact h2 rfl q
theorem BpW.here {w wr : World} {base rd : Nat} {RV ZV LV : Value} {sg : Int} {rs : List RuT} {zs : List ZoT} {ls : List LkT} (h : BpW w wr base rd RV ZV LV sg rs zs ls) : BpW wr wr base rd RV ZV LV sg rs zs ls :=
 ⟨Below.refl _ _, h.R, h.M, fun _ _ h => h, h.h1, h.h2⟩
theorem BpW.trans {w wr w2 : World} {base rd : Nat} {RV ZV LV RV' ZV' LV' : Value} {sg sg' : Int} {rs rs' : List RuT} {zs zs' : List ZoT} {ls ls' : List LkT} (h : BpW w wr base rd RV ZV LV sg rs zs ls) (h2 : BpW wr w2 base rd RV' ZV' LV' sg' rs' zs' ls') : BpW w w2 base rd RV' ZV' LV' sg' rs' zs' ls' :=
 ⟨h.L.trans h2.L, h2.R, h2.M, fun g cs hg => h2.S g cs (h.S g cs hg), h2.h1, h2.h2⟩
theorem line_from {F : Rdr} {w wr w' : World} {base rd : Nat} {RV ZV LV : Value} {sg : Int} {rs : List RuT} {zs : List ZoT} {ls : List LkT} {st : PbS} {s : ByteArray} {e : Ending} (h : BpW w wr base rd RV ZV LV sg rs zs ls) (hp : LinePost F wr base rd st s e w') : LinePost F w base rd st s e w' := by
 obtain ⟨ok, rfl, hb, h1, h2⟩ := hp
 refine ⟨ok, rfl, h.L.trans hb, fun ho => ?_, h2⟩
 obtain ⟨st', RV', ZV', LV', zs', a, b, c⟩ := h1 ho
 exact ⟨st', RV', ZV', LV', zs', a, b, h.trans c⟩
theorem R_fin {w v0 w6 : World} {base rd : Nat} {RV ZV LV RV' : Value} {sg : Int} {rs : List RuT} {zs : List ZoT} {ls : List LkT} {r : RuT} {cs : Array Value} (h : BpW w v0 base rd RV ZV LV sg rs zs ls) (ho : w6.ownsRow base 70 11 RV' (rs.length + 1) ((rs.map ruC).flatten ++ ruC r)) (hg : (v0.alloc (.cells cs 70)).grownBy w6 RV.ownBlock) :
  (w6.cell? ⟨rd, 0, none⟩ = some RV ∧ w6.frozen? ⟨rd, 0, none⟩ = false ∧ rd < w6.heap.size) ∧ Below base w w6 ∧ (∀ X ys, Blk (v0.alloc (.cells cs 70)) X 70 ys → RV.ownBlock ≠ some X → Blk w6 X 70 ys) ∧ BpW w (w6.setCell ⟨rd, 0, none⟩ RV') base rd RV' ZV LV sg (rs ++ [r]) zs ls := by
 have hV := (Below.refl v0.heap.size v0).alloc (Nat.le_refl _) (.cells cs 70)
 have h' := h.step hV
 have hR6 := h'.R.grown hg (h'.R.own_ne h'.M.hR (by decide))
 have hb6 : Below base w w6 := h'.L.grown hg h'.h1 (fun k hk => (h'.M.hR.lt k hk).1)
 have hM := h'.M.addR ho hg
 refine ⟨⟨hR6.cell 0, hR6.frz 0, hR6.lt⟩, hb6, fun X ys hX hq => hX.grown hg hq, ⟨hb6.setCell (p := ⟨rd, 0, none⟩) h.h2 _, ?_, hM.off hR6 (by decide) (by decide) (by decide) (by decide) 0 _, fun g c2 hs => ?_, ?_, h.h2⟩⟩
 ·have h0 := hR6.set 0 RV'
  simp only [List.setIfInBounds_toArray, List.set_cons_succ, List.set_cons_zero] at h0
  exact h0
 ·have hs6 := (h'.S g c2 hs).grown hg ((h'.S g c2 hs).own_ne h'.M.hR (by decide))
  exact hs6.far (a := ⟨rd, 0, none⟩) (hs6.ne hR6 (by decide)) _
 ·have := hg.size; have := h'.h1; simp at *; omega
theorem Z_fin {w v0 w6 : World} {base rd : Nat} {RV ZV LV ZV' : Value} {sg : Int} {rs : List RuT} {zs : List ZoT} {ls : List LkT} {nm : ByteArray} {cs : Array Value} (h : BpW w v0 base rd RV ZV LV sg rs zs ls) (ho : w6.ownsRow base 75 2 ZV' (zs.length + 1) ((zs.map zoC).flatten ++ [.string nm, .slice none 0 0])) (hg : (v0.alloc (.cells cs 75)).grownBy w6 ZV.ownBlock) :
  (w6.cell? ⟨rd, 1, none⟩ = some ZV ∧ w6.frozen? ⟨rd, 1, none⟩ = false ∧ rd < w6.heap.size) ∧ Below base w w6 ∧ (∀ X ys, Blk (v0.alloc (.cells cs 75)) X 75 ys → ZV.ownBlock ≠ some X → Blk w6 X 75 ys) ∧ BpW w (w6.setCell ⟨rd, 1, none⟩ ZV') base rd RV ZV' LV sg rs (zs ++ [⟨nm, none, 0, []⟩]) ls := by
 have hV := (Below.refl v0.heap.size v0).alloc (Nat.le_refl _) (.cells cs 75)
 have h' := h.step hV
 have hR6 := h'.R.grown hg (h'.R.own_ne h'.M.hZ (by decide))
 have hb6 : Below base w w6 := h'.L.grown hg h'.h1 (fun k hk => (h'.M.hZ.lt k hk).1)
 have hM := h'.M.addZ ho hg
 refine ⟨⟨hR6.cell 1, hR6.frz 1, hR6.lt⟩, hb6, fun X ys hX hq => hX.grown hg hq, ⟨hb6.setCell (p := ⟨rd, 1, none⟩) h.h2 _, ?_, hM.off hR6 (by decide) (by decide) (by decide) (by decide) 1 _, fun g c2 hs => ?_, ?_, h.h2⟩⟩
 ·have h0 := hR6.set 1 ZV'
  simp only [List.setIfInBounds_toArray, List.set_cons_succ, List.set_cons_zero] at h0
  exact h0
 ·have hs6 := (h'.S g c2 hs).grown hg ((h'.S g c2 hs).own_ne h'.M.hZ (by decide))
  exact hs6.far (a := ⟨rd, 1, none⟩) (hs6.ne hR6 (by decide)) _
 ·have := hg.size; have := h'.h1; simp at *; omega
theorem L_fin {w v0 w6 : World} {base rd : Nat} {RV ZV LV LV' : Value} {sg : Int} {rs : List RuT} {zs : List ZoT} {ls : List LkT} {x : LkT} {cs : Array Value} (h : BpW w v0 base rd RV ZV LV sg rs zs ls) (ho : w6.ownsRow base 77 2 LV' (ls.length + 1) ((ls.map lkC).flatten ++ lkC x)) (hg : (v0.alloc (.cells cs 77)).grownBy w6 LV.ownBlock) :
  (w6.cell? ⟨rd, 2, none⟩ = some LV ∧ w6.frozen? ⟨rd, 2, none⟩ = false ∧ rd < w6.heap.size) ∧ Below base w w6 ∧ (∀ X ys, Blk (v0.alloc (.cells cs 77)) X 77 ys → LV.ownBlock ≠ some X → Blk w6 X 77 ys) ∧ BpW w (w6.setCell ⟨rd, 2, none⟩ LV') base rd RV ZV LV' sg rs zs (ls ++ [x]) := by
 have hV := (Below.refl v0.heap.size v0).alloc (Nat.le_refl _) (.cells cs 77)
 have h' := h.step hV
 have hR6 := h'.R.grown hg (h'.R.own_ne h'.M.hL (by decide))
 have hb6 : Below base w w6 := h'.L.grown hg h'.h1 (fun k hk => (h'.M.hL.lt k hk).1)
 have hM := h'.M.addL ho hg
 refine ⟨⟨hR6.cell 2, hR6.frz 2, hR6.lt⟩, hb6, fun X ys hX hq => hX.grown hg hq, ⟨hb6.setCell (p := ⟨rd, 2, none⟩) h.h2 _, ?_, hM.off hR6 (by decide) (by decide) (by decide) (by decide) 2 _, fun g c2 hs => ?_, ?_, h.h2⟩⟩
 ·have h0 := hR6.set 2 LV'
  simp only [List.setIfInBounds_toArray, List.set_cons_succ, List.set_cons_zero] at h0
  exact h0
 ·have hs6 := (h'.S g c2 hs).grown hg ((h'.S g c2 hs).own_ne h'.M.hL (by decide))
  exact hs6.far (a := ⟨rd, 2, none⟩) (hs6.ne hR6 (by decide)) _
 ·have := hg.size; have := h'.h1; simp at *; omega
theorem line_bad {F : Rdr} {st : PbS} {s : ByteArray} (h1 : ¬ ((wordB 32 s).getD 0 eMT = rULE ∧ st.zs = [] ∧ st.ls = [] ∧ (F.ru s).2 = 0)) (h2 : ¬ ((wordB 32 s).getD 0 eMT = zONE ∧ st.op = false ∧ st.ls = [] ∧ (wordB 32 s).length = 2)) (h3 : ¬ ((wordB 32 s).getD 0 eMT = lINK ∧ st.op = false ∧ (wordB 32 s).length = 3)) (h4 : (wordB 32 s).getD 0 eMT ≠ eRA) : LineIs F st s none :=
 Or.inr (Or.inr (Or.inr (Or.inr ⟨rfl, h1, h2, h3, fun h => h4 h.1⟩)))
set_option maxRecDepth 100000 in
set_option maxHeartbeats 4000000 in
theorem b_line (F : Rdr) (w : World) (base rd : Nat) (RV ZV LV : Value) (st : PbS) (zs : List ZoT) (s : ByteArray) (G : PbG st) (hz : zs.map zoP = st.zs) (hW : BpW w w base rd RV ZV LV (stgV st) st.rs zs st.ls) (hs : s.size ≤ 60000) (hlen : st.rs.length ≤ 100000 ∧ zs.length ≤ 100000 ∧ st.ls.length ≤ 100000 ∧ ∀ z ∈ zs, z.eras.length ≤ 100000) (P : ∀ V : World, Below base w V → RpW V) :
  Calls Tryz.prog 21 #[.pointer (some ⟨rd, 0, none⟩), .string s] w (LinePost F w base rd st s) := by
 have HW := Lib.hid hW
 have HG := Lib.hid G
 have HZ := Lib.hid hz
 have HP := Lib.hid P
 have HL := Lib.hid hlen
 clear hW G hz P hlen
 go_enter Tryz.func21, Tryz.ntmps21
 go_wp2_with fail
 refine (split_one s 32 (by omega) _).mono ?_
 rintro e w1 ⟨ws, hws, rfl, rfl⟩
 have HWS := Lib.hid (wordB_of hws)
 have hlw : ws.length ≤ 60001 := by
  have h1 := lSplit_many 32 s.data.toList
  have e1 := congrArg List.length hws
  rw [List.length_map] at e1
  have e2 : s.size = s.data.toList.length := Lib.size_eq s
  omega
 have hl0 : 0 < ws.length := by
  rw [HWS.out]
  exact List.length_pos_iff.2 (wordB_ne 32 s)
 clear hws
 have hV := (Below.refl w.heap.size w).alloc (Nat.le_refl _) (.cells (ws.map Value.string).toArray 9)
 have HX := Lib.hid (Blk.new w (ws.map Value.string).toArray 9)
 have HB := Lib.hid (HW.out.step hV)
 replace HW := Lib.hid (HB.out.here)
 clear hV
 obtain ⟨W1, hW1⟩ : ∃ W1, w.alloc (.cells (ws.map Value.string).toArray 9) = W1 := ⟨_, rfl⟩
 obtain ⟨Wb, hWb⟩ : ∃ Wb, w.heap.size = Wb := ⟨_, rfl⟩
 rw [hW1] at HX HB HW ⊢
 rw [hWb] at HX ⊢
 clear hW1 hWb
 have HSZ := Lib.hid (show ∀ b ∈ ws, b.size ≤ 60000 from fun b hb => by rw [HWS.out] at hb; exact Nat.le_trans (wordB_size b hb) hs)
 replace HP := Lib.hid (fun (V : World) (hb : Below base W1 V) => HP.out V (HB.out.L.trans hb))
 obtain ⟨sg, hsg⟩ : ∃ sg, stgV st = sg := ⟨_, rfl⟩
 have HSg := Lib.hid hsg
 rw [hsg] at HW HB
 clear hsg
 obtain ⟨n, hn⟩ : ∃ n, ws.length = n := ⟨_, rfl⟩
 have HN := Lib.hid hn
 have HN2 := Lib.hid (show (wordB 32 s).length = n by rw [← HWS.out]; exact hn)
 obtain ⟨w0, hw0⟩ : ∃ w0, ws.getD 0 eMT = w0 := ⟨_, rfl⟩
 have HW0 := Lib.hid (show (wordB 32 s).getD 0 eMT = w0 by rw [← HWS.out]; exact hw0)
 have c0 := wd_at HX.out hl0
 rw [hw0] at c0
 have xl := HX.out.lt
 have rc := HW.out.R.cell
 have rl := HW.out.R.lt
 rw [hn] at hl0 hlw ⊢
 clear hn hw0
 have hi1 : (0 : Int) < (n : Int) := by omega
 by_cases c4 : w0 = eRA
 ·have t1 : (w0.toList == [114, 117, 108, 101]) = false := by rw [c4, bw_list.2.2.1]; rfl
  have t2 : (w0.toList == [122, 111, 110, 101]) = false := by rw [c4, bw_list.2.2.1]; rfl
  have t4 : (w0.toList == [101, 114, 97]) = true := by rw [c4, bw_list.2.2.1]; rfl
  have HE := Lib.hid (b_era F W1 base rd Wb RV ZV LV sg st.op st.rs zs st.ls ws HW.out HX.out HSZ.out (by rw [HN.out]; exact hlw) (by rw [← HSg.out]; exact stg_op) (fun h => by have := (HG.out.op h).2; rw [← HZ.out] at this; intro e; rw [e] at this; exact this rfl) ⟨HL.out.2.1, HL.out.2.2.2⟩ HP.out)
  rw [HN.out] at HE
  have HC := Lib.hid (show (wordB 32 s).getD 0 eMT = eRA by rw [HW0.out, c4])
  clear c4
  go_wp2_with fail
  refine HE.out.mono ?_
  intro e w5 hp
  have HQ := Lib.hid (line_from HB.out (line_era HG.out HZ.out HC.out (by rw [← HWS.out]; exact hp)))
  obtain ⟨ok, rfl, _⟩ := hp
  go_wp2_with fail
  go_ret
  exact HQ.out
 have t4 : (w0.toList == [101, 114, 97]) = false := by rw [← bw_list.2.2.1]; exact str_ne c4
 have HBL := Lib.hid HB.out.L
 by_cases c1 : w0 = rULE
 ·have t1 : (w0.toList == [114, 117, 108, 101]) = true := by rw [c1, bw_list.1]; rfl
  have t2 : (w0.toList == [122, 111, 110, 101]) = false := by rw [c1, bw_list.1]; rfl
  have t3 : (w0.toList == [108, 105, 110, 107]) = false := by rw [c1, bw_list.1]; rfl
  have HC1 := Lib.hid (show (wordB 32 s).getD 0 eMT = rULE by rw [HW0.out, c1])
  clear c1 c4
  by_cases q1 : sg = 0
  ·subst q1
   have HPu := Lib.hid (u_Parse s (by omega) W1 (HP.out W1 (Below.refl _ _)))
   go_wp2_with fail
   refine HPu.out.mono ?_
   rintro e w5 ⟨r, er, rfl, hr, hb⟩
   have HR := Lib.hid (F.ru_eq hr)
   replace HW := Lib.hid (HW.out.step hb)
   have hV := (Below.refl w5.heap.size w5).alloc (Nat.le_refl _) (.cells (ruA r) 70)
   have HQ := Lib.hid (Blk.new w5 (ruA r) 70)
   have HgQ := Lib.hid (show RV.ownBlock ≠ some w5.heap.size from fun e => by have := (HW.out.M.hR.lt _ e).2; omega)
   replace HW := Lib.hid (HW.out.step hV)
   clear hb hV hr HPu rc rl c0 xl
   go_upto_region 4 with fail
   obtain ⟨V6, hV6⟩ : ∃ V, w5.alloc (.cells (ruA r) 70) = V := ⟨_, rfl⟩
   obtain ⟨X, hXe⟩ : ∃ X, w5.heap.size = X := ⟨_, rfl⟩
   rw [hV6] at HW HQ ⊢
   rw [hXe] at HQ HgQ ⊢
   clear hV6 hXe
   obtain ⟨iR, hiR, he0, he1, he2⟩ := info_parts info_RuS
   have hzl := HL.out.1
   have HNX := Lib.hid (HQ.out.ne HW.out.R (by decide))
   refine wp_region_noPanic ?_
   refine wp_region_held_drew (S := fun W' : World => Below base W1 W' ∧ Blk W' X 70 (ruA r)) (by kernel_rfl) ⟨HW.out.L.drew, HQ.out.drew⟩ (fun hHeld0 => ?_)
   have hHeld := hHeld0
   clear hHeld0
   have HW0 := Lib.hid (HW.out.step (Below.refl _ _).drew)
   obtain ⟨v0, hv0⟩ : ∃ x, V6.drew = x := ⟨_, rfl⟩
   rw [hv0] at hHeld HW0 ⊢
   clear hv0
   refine wpAnyH_take (i := 0) (v := ?_) rfl (by kernel_rfl) (by kernel_rfl) (by kernel_rfl) (fun _ _ _ h => h) (Or.inl ⟨by rfl, ?_⟩) hHeld ?_
   rotate_left
   ·intro wq hSw
    go_simp
    try with_reducible rfl
   try simp only [Act.put, List.getElem_toArray, List.getElem_cons_succ, List.getElem_cons_zero, List.setIfInBounds_toArray, List.set_cons_zero, List.set_cons_succ]
   refine wpAnyH_take (i := 1) (v := ?_) rfl (by kernel_rfl) (by kernel_rfl) (by kernel_rfl) (fun _ _ _ h => h) (Or.inl ⟨by rfl, ?_⟩) hHeld ?_
   rotate_left
   ·intro wq hSw
    go_simp
    try with_reducible rfl
   try simp only [Act.put, List.getElem_toArray, List.getElem_cons_succ, List.getElem_cons_zero, List.setIfInBounds_toArray, List.set_cons_zero, List.set_cons_succ]
   refine wpAnyH_take (i := 2) (v := ?_) rfl (by kernel_rfl) (by kernel_rfl) (by kernel_rfl) (fun _ _ _ h => h) (Or.inl ⟨by rfl, ?_⟩) hHeld ?_
   rotate_left
   ·intro wq hSw
    go_simp
    try with_reducible rfl
   try simp only [Act.put, List.getElem_toArray, List.getElem_cons_succ, List.getElem_cons_zero, List.setIfInBounds_toArray, List.set_cons_zero, List.set_cons_succ]
   refine wpAnyH_take (i := 3) (v := ?_) rfl (by kernel_rfl) (by kernel_rfl) (by kernel_rfl) (fun _ _ _ h => h) (Or.inl ⟨by rfl, ?_⟩) hHeld ?_
   rotate_left
   ·intro wq hSw
    go_simp
    try with_reducible rfl
   try simp only [Act.put, List.getElem_toArray, List.getElem_cons_succ, List.getElem_cons_zero, List.setIfInBounds_toArray, List.set_cons_zero, List.set_cons_succ]
   refine wpAnyH_take (i := 4) (v := ?_) rfl (by kernel_rfl) (by kernel_rfl) (by kernel_rfl) (fun _ _ _ h => h) (Or.inl ⟨by rfl, ?_⟩) hHeld ?_
   rotate_left
   ·intro wq hSw
    go_simp
    try with_reducible rfl
   try simp only [Act.put, List.getElem_toArray, List.getElem_cons_succ, List.getElem_cons_zero, List.setIfInBounds_toArray, List.set_cons_zero, List.set_cons_succ]
   refine wpAnyH_take (i := 6) (v := ?_) rfl (by kernel_rfl) (by kernel_rfl) (by kernel_rfl) (fun _ _ _ h => h) (Or.inl ⟨by rfl, ?_⟩) hHeld ?_
   rotate_left
   ·intro wq hSw
    have xc := hSw.2.cell
    have xl := hSw.2.lt
    go_simp
    try with_reducible rfl
   try simp only [Act.put, List.getElem_toArray, List.getElem_cons_succ, List.getElem_cons_zero, List.setIfInBounds_toArray, List.set_cons_zero, List.set_cons_succ]
   refine wpAnyH_ready (rs := [5, 7]) (by kernel_rfl) (by simp) ?_
   refine AllReadyH.cons rfl (fun K hK => ?_) (AllReadyH.cons rfl (fun K hK => ?_) AllReadyH.nil)
   ·skip
    have zc := (HW0.out.R).cell
    have zl := (HW0.out.R).lt
    go_simp
    refine hK.out _ _ hHeld (fun hHeld2 => ?_)
    clear hK K hHeld2 zc zl
    try simp only [Act.put, List.getElem_toArray, List.getElem_cons_succ, List.getElem_cons_zero, List.setIfInBounds_toArray, List.set_cons_zero, List.set_cons_succ]
    refine wpAnyH_ready (rs := [7]) (by kernel_rfl) (by simp) ?_
    refine AllReadyH.cons rfl (fun K hK => ?_) AllReadyH.nil
    have hS8 := And.intro (hHeld.1.alloc HW0.out.h1 (.cells (ruA r) 70)) (hHeld.2.alloc (.cells (ruA r) 70))
    go_simp
    refine hK.out _ _ hS8 (fun hHeld2 => ?_)
    clear hK K hHeld hHeld2
    have hHeld := hS8
    clear hS8
    try simp only [Act.put, List.getElem_toArray, List.getElem_cons_succ, List.getElem_cons_zero, List.setIfInBounds_toArray, List.set_cons_zero, List.set_cons_succ]
    refine wpAnyH_ready (rs := [8]) (by kernel_rfl) (by simp) ?_
    refine AllReadyH.cons rfl (fun K hK => ?_) AllReadyH.nil
    have hM1 := HW0.out.M.step ((Below.refl _ _).alloc (Nat.le_refl _) (.cells (ruA r) 70))
    have hzv := HW0.out.h1
    refine step_append_lies _ (by rfl) _ _ _ (by rfl) base 70 iR _ 11 104 Tryz.underlying22 hiR he0 he1 he2 rfl (by omega) RV st.rs.length _ (by rfl) hM1.hR ⟨v0.heap.size, 0, none⟩ 1 1 (ruC r) (by rfl) (by rfl) (World.news_of_block (cs := (ruC r).toArray) (t := 70) (fr := (0, 0)) (heap_alloc_new v0 _)) (by simp [Value.oneCell', ruC]) (by omega) (by unfold maxLen; omega) (by omega) (by simp; omega) (v0.heap.size + 1) (by simp) ?_; intro gg cap2 w6 hown1 hgrow hat hlt6
    obtain ⟨⟨zc, zf, zl⟩, hb6, hx6, hFin⟩ := R_fin HW0.out hown1 hgrow
    have hX6 := hx6 X (ruA r) hHeld.2 HgQ.out
    refine hK.out _ _ ⟨hb6, hX6⟩ (fun hHeld2 => ?_)
    clear hK K hHeld hHeld2
    try simp only [Act.put, List.getElem_toArray, List.getElem_cons_succ, List.getElem_cons_zero, List.setIfInBounds_toArray, List.set_cons_zero, List.set_cons_succ]
    have hHeld := And.intro hb6 hX6
    refine wpAnyH_take (i := 9) (v := ?_) rfl (by kernel_rfl) (by kernel_rfl) (by kernel_rfl) (fun _ _ _ h => h) (Or.inl ⟨by rfl, ?_⟩) hHeld ?_
    rotate_left
    ·intro wq hSw
     go_simp
     try with_reducible rfl
    try simp only [Act.put, List.getElem_toArray, List.getElem_cons_succ, List.getElem_cons_zero, List.setIfInBounds_toArray, List.set_cons_zero, List.set_cons_succ]
    refine wpAnyH_take (i := 10) (v := ?_) rfl (by kernel_rfl) (by kernel_rfl) (by kernel_rfl) (fun _ _ _ h => h) (Or.inl ⟨by rfl, ?_⟩) hHeld ?_
    rotate_left
    ·intro wq hSw
     go_simp
     try with_reducible rfl
    try simp only [Act.put, List.getElem_toArray, List.getElem_cons_succ, List.getElem_cons_zero, List.setIfInBounds_toArray, List.set_cons_zero, List.set_cons_succ]
    refine wpAnyH_take (i := 11) (v := ?_) rfl (by kernel_rfl) (by kernel_rfl) (by kernel_rfl) (fun _ _ _ h => h) (Or.inl ⟨by rfl, ?_⟩) hHeld ?_
    rotate_left
    ·intro wq hSw
     go_simp
     try with_reducible rfl
    try simp only [Act.put, List.getElem_toArray, List.getElem_cons_succ, List.getElem_cons_zero, List.setIfInBounds_toArray, List.set_cons_zero, List.set_cons_succ]
    refine wpAnyH_ready (rs := [12]) (by kernel_rfl) (by simp) ?_
    refine AllReadyH.cons rfl (fun K hK => ?_) AllReadyH.nil
    have hS8 := And.intro (hFin.L) (hX6.far (a := ⟨rd, 0, none⟩) (HNX.out) (.slice (some ⟨gg, 0, none⟩) (st.rs.length + 1) cap2))
    go_simp
    refine hK.out _ _ hS8 (fun hHeld2 => ?_)
    clear hK K hHeld hHeld2 hS8
    try simp only [Act.put, List.getElem_toArray, List.getElem_cons_succ, List.getElem_cons_zero, List.setIfInBounds_toArray, List.set_cons_zero, List.set_cons_succ]
    refine wpAnyH_done (by kernel_rfl) ?_ _
    refine NoPanic.normal ?_
    have HFin := Lib.hid hFin
    clear hFin zc zf zl hb6 hx6 hX6 hown1 hgrow hat hlt6 hM1 HW0 HW HQ
    obtain ⟨V7, hV7⟩ : ∃ V, w6.setCell ⟨rd, 0, none⟩ (.slice (some ⟨gg, 0, none⟩) (st.rs.length + 1) cap2) = V := ⟨_, rfl⟩
    rw [hV7] at HFin ⊢
    clear hV7
    go_upto_region 5 with fail
    by_cases q3 : er = 0
    ·subst q3
     have hzl0 := (stg_zero HG.out).1 HSg.out
     have HYes := Lib.hid (line_from HB.out (line_yes (F := F) (st := st) (s := s) (st' := ⟨st.rs ++ [(F.ru s).1], st.zs, st.ls, st.op⟩) (Or.inl ⟨HC1.out, ⟨hzl0.1, hzl0.2, by rw [HR.out]⟩, rfl⟩) HZ.out (by have e9 : stgV ⟨st.rs ++ [(F.ru s).1], st.zs, st.ls, st.op⟩ = 0 := HSg.out; rw [e9, HR.out]; exact HFin.out)))
     clear hzl0
     go_wp2_with fail
     go_ret
     exact HYes.out
    ·have q' : (er == 0) = false := by rw [beq_eq_false_iff_ne]; exact q3
     have HNo := Lib.hid (line_from HB.out (line_no (s := s) HFin.out.L (line_bad (F := F) (st := st) (fun h => q3 (by have h9 := h.2.2.2; rw [HR.out] at h9; exact h9)) (fun h => words_ne.1 (HC1.out.symm.trans h.1)) (fun h => words_ne.2.1 (HC1.out.symm.trans h.1)) (fun h => words_ne.2.2.1 (HC1.out.symm.trans h)))))
     clear q3
     go_wp2_with fail
     go_ret
     exact HNo.out
   have hS8 := And.intro (hHeld.1.alloc HW0.out.h1 (.cells (ruA r) 70)) (hHeld.2.alloc (.cells (ruA r) 70))
   go_simp
   refine hK.out _ _ hS8 (fun hHeld2 => ?_)
   clear hK K hHeld hHeld2
   have hHeld := hS8
   clear hS8
   try simp only [Act.put, List.getElem_toArray, List.getElem_cons_succ, List.getElem_cons_zero, List.setIfInBounds_toArray, List.set_cons_zero, List.set_cons_succ]
   refine wpAnyH_ready (rs := [5]) (by kernel_rfl) (by simp) ?_
   refine AllReadyH.cons rfl (fun K hK => ?_) AllReadyH.nil
   have zc := (HW0.out.R.alloc (.cells (ruA r) 70)).cell
   have zl := (HW0.out.R.alloc (.cells (ruA r) 70)).lt
   go_simp
   refine hK.out _ _ hHeld (fun hHeld2 => ?_)
   clear hK K hHeld2 zc zl
   try simp only [Act.put, List.getElem_toArray, List.getElem_cons_succ, List.getElem_cons_zero, List.setIfInBounds_toArray, List.set_cons_zero, List.set_cons_succ]
   refine wpAnyH_ready (rs := [8]) (by kernel_rfl) (by simp) ?_
   refine AllReadyH.cons rfl (fun K hK => ?_) AllReadyH.nil
   have hM1 := HW0.out.M.step ((Below.refl _ _).alloc (Nat.le_refl _) (.cells (ruA r) 70))
   have hzv := HW0.out.h1
   refine step_append_lies _ (by rfl) _ _ _ (by rfl) base 70 iR _ 11 104 Tryz.underlying22 hiR he0 he1 he2 rfl (by omega) RV st.rs.length _ (by rfl) hM1.hR ⟨v0.heap.size, 0, none⟩ 1 1 (ruC r) (by rfl) (by rfl) (World.news_of_block (cs := (ruC r).toArray) (t := 70) (fr := (0, 0)) (heap_alloc_new v0 _)) (by simp [Value.oneCell', ruC]) (by omega) (by unfold maxLen; omega) (by omega) (by simp; omega) (v0.heap.size + 1) (by simp) ?_; intro gg cap2 w6 hown1 hgrow hat hlt6
   obtain ⟨⟨zc, zf, zl⟩, hb6, hx6, hFin⟩ := R_fin HW0.out hown1 hgrow
   have hX6 := hx6 X (ruA r) hHeld.2 HgQ.out
   refine hK.out _ _ ⟨hb6, hX6⟩ (fun hHeld2 => ?_)
   clear hK K hHeld hHeld2
   try simp only [Act.put, List.getElem_toArray, List.getElem_cons_succ, List.getElem_cons_zero, List.setIfInBounds_toArray, List.set_cons_zero, List.set_cons_succ]
   have hHeld := And.intro hb6 hX6
   refine wpAnyH_take (i := 9) (v := ?_) rfl (by kernel_rfl) (by kernel_rfl) (by kernel_rfl) (fun _ _ _ h => h) (Or.inl ⟨by rfl, ?_⟩) hHeld ?_
   rotate_left
   ·intro wq hSw
    go_simp
    try with_reducible rfl
   try simp only [Act.put, List.getElem_toArray, List.getElem_cons_succ, List.getElem_cons_zero, List.setIfInBounds_toArray, List.set_cons_zero, List.set_cons_succ]
   refine wpAnyH_take (i := 10) (v := ?_) rfl (by kernel_rfl) (by kernel_rfl) (by kernel_rfl) (fun _ _ _ h => h) (Or.inl ⟨by rfl, ?_⟩) hHeld ?_
   rotate_left
   ·intro wq hSw
    go_simp
    try with_reducible rfl
   try simp only [Act.put, List.getElem_toArray, List.getElem_cons_succ, List.getElem_cons_zero, List.setIfInBounds_toArray, List.set_cons_zero, List.set_cons_succ]
   refine wpAnyH_take (i := 11) (v := ?_) rfl (by kernel_rfl) (by kernel_rfl) (by kernel_rfl) (fun _ _ _ h => h) (Or.inl ⟨by rfl, ?_⟩) hHeld ?_
   rotate_left
   ·intro wq hSw
    go_simp
    try with_reducible rfl
   try simp only [Act.put, List.getElem_toArray, List.getElem_cons_succ, List.getElem_cons_zero, List.setIfInBounds_toArray, List.set_cons_zero, List.set_cons_succ]
   refine wpAnyH_ready (rs := [12]) (by kernel_rfl) (by simp) ?_
   refine AllReadyH.cons rfl (fun K hK => ?_) AllReadyH.nil
   have hS8 := And.intro (hFin.L) (hX6.far (a := ⟨rd, 0, none⟩) (HNX.out) (.slice (some ⟨gg, 0, none⟩) (st.rs.length + 1) cap2))
   go_simp
   refine hK.out _ _ hS8 (fun hHeld2 => ?_)
   clear hK K hHeld hHeld2 hS8
   try simp only [Act.put, List.getElem_toArray, List.getElem_cons_succ, List.getElem_cons_zero, List.setIfInBounds_toArray, List.set_cons_zero, List.set_cons_succ]
   refine wpAnyH_done (by kernel_rfl) ?_ _
   refine NoPanic.normal ?_
   have HFin := Lib.hid hFin
   clear hFin zc zf zl hb6 hx6 hX6 hown1 hgrow hat hlt6 hM1 HW0 HW HQ
   obtain ⟨V7, hV7⟩ : ∃ V, w6.setCell ⟨rd, 0, none⟩ (.slice (some ⟨gg, 0, none⟩) (st.rs.length + 1) cap2) = V := ⟨_, rfl⟩
   rw [hV7] at HFin ⊢
   clear hV7
   go_upto_region 5 with fail
   by_cases q3 : er = 0
   ·subst q3
    have hzl0 := (stg_zero HG.out).1 HSg.out
    have HYes := Lib.hid (line_from HB.out (line_yes (F := F) (st := st) (s := s) (st' := ⟨st.rs ++ [(F.ru s).1], st.zs, st.ls, st.op⟩) (Or.inl ⟨HC1.out, ⟨hzl0.1, hzl0.2, by rw [HR.out]⟩, rfl⟩) HZ.out (by have e9 : stgV ⟨st.rs ++ [(F.ru s).1], st.zs, st.ls, st.op⟩ = 0 := HSg.out; rw [e9, HR.out]; exact HFin.out)))
    clear hzl0
    go_wp2_with fail
    go_ret
    exact HYes.out
   ·have q' : (er == 0) = false := by rw [beq_eq_false_iff_ne]; exact q3
    have HNo := Lib.hid (line_from HB.out (line_no (s := s) HFin.out.L (line_bad (F := F) (st := st) (fun h => q3 (by have h9 := h.2.2.2; rw [HR.out] at h9; exact h9)) (fun h => words_ne.1 (HC1.out.symm.trans h.1)) (fun h => words_ne.2.1 (HC1.out.symm.trans h.1)) (fun h => words_ne.2.2.1 (HC1.out.symm.trans h)))))
    clear q3
    go_wp2_with fail
    go_ret
    exact HNo.out
  ·have q1' : (sg == 0) = false := by rw [beq_eq_false_iff_ne]; exact q1
   have HQ := Lib.hid (line_from HB.out (line_no (s := s) (Below.refl base W1) (line_bad (F := F) (fun h => q1 (by rw [← HSg.out]; exact (stg_zero HG.out).2 ⟨h.2.1, h.2.2.1⟩)) (fun h => words_ne.1 (HC1.out.symm.trans h.1)) (fun h => words_ne.2.1 (HC1.out.symm.trans h.1)) (fun h => words_ne.2.2.1 (HC1.out.symm.trans h)))))
   clear q1
   go_wp2_with fail
   go_ret
   exact HQ.out
 by_cases c2 : w0 = zONE
 ·have t1 : (w0.toList == [114, 117, 108, 101]) = false := by rw [c2, bw_list.2.1]; rfl
  have t2 : (w0.toList == [122, 111, 110, 101]) = true := by rw [c2, bw_list.2.1]; rfl
  have t3 : (w0.toList == [108, 105, 110, 107]) = false := by rw [c2, bw_list.2.1]; rfl
  have HC1 := Lib.hid (show (wordB 32 s).getD 0 eMT = zONE by rw [HW0.out, c2])
  clear c1 c2 c4
  have HNo := Lib.hid (fun (h : ¬ (sg ≤ 1 ∧ n = 2)) => line_from HB.out (line_no (s := s) (Below.refl base W1) (line_bad (F := F) (fun q => words_ne.1 (q.1.symm.trans HC1.out)) (fun q => h ⟨by rw [← HSg.out]; exact (stg_low HG.out).2 ⟨q.2.1, q.2.2.1⟩, by rw [← HN2.out]; exact q.2.2.2⟩) (fun q => words_ne.2.2.2.1 (HC1.out.symm.trans q.1)) (fun q => words_ne.2.2.2.2.1 (HC1.out.symm.trans q)))))
  by_cases q1 : sg ≤ 1
  ·by_cases q2 : n = 2
   ·have hn1 : (1 : Int) < (n : Int) := by omega
    obtain ⟨s1, hs1⟩ : ∃ x, ws.getD 1 eMT = x := ⟨_, rfl⟩
    have HD1 := Lib.hid (fun (V : World) (h : Blk V Wb 9 (ws.map Value.string).toArray) => (by have q := wd_at h (i := 1) (by rw [HN.out]; omega); rw [hs1] at q; exact q : V.cell? ⟨Wb, 1, none⟩ = some (.string s1)))
    have HS1 := Lib.hid (show (wordB 32 s).getD 1 eMT = s1 by rw [← HWS.out]; exact hs1)
    clear hs1
    have HYs := Lib.hid (fun (V : World) (ZV' : Value) (h : BpW W1 V base rd RV ZV' LV 2 st.rs (zs ++ [⟨s1, none, 0, []⟩]) st.ls) => line_from HB.out (line_yes (F := F) (st := st) (s := s) (st' := ⟨st.rs, st.zs ++ [((wordB 32 s).getD 1 eMT, [])], st.ls, true⟩) (Or.inr (Or.inl ⟨HC1.out, ⟨((stg_low HG.out).1 (by rw [HSg.out]; exact q1)).1, ((stg_low HG.out).1 (by rw [HSg.out]; exact q1)).2, by rw [HN2.out]; exact q2⟩, rfl⟩)) (by rw [List.map_append, HZ.out, HS1.out]; rfl) (show BpW W1 V base rd RV ZV' LV 2 st.rs (zs ++ [⟨s1, none, 0, []⟩]) st.ls from h)))
    have q2' : ((n : Int) == 2) = true := by rw [beq_iff_eq]; omega
    obtain ⟨iR, hiR, he0, he1, he2⟩ := info_parts info_ZoS
    have HNX := Lib.hid (HX.out.ne HW.out.R (by decide))
    have hzl := HL.out
    clear q2 HNo
    go_upto_region 7 with fail
    all_goals (try (exfalso; simp_all; done))
    clear rc rl c0 xl
    refine wp_region_noPanic ?_
    refine wp_region_held_drew (S := fun W' : World => Below base W1 W' ∧ Blk W' Wb 9 (ws.map Value.string).toArray) (by kernel_rfl) ⟨HW.out.L.drew, HX.out.drew⟩ (fun hHeld0 => ?_)
    have hHeld := hHeld0
    clear hHeld0
    have HW0 := Lib.hid (HW.out.step (Below.refl _ _).drew)
    have HX0 := Lib.hid HX.out.drew
    obtain ⟨v0, hv0⟩ : ∃ x, W1.drew = x := ⟨_, rfl⟩
    rw [hv0] at hHeld HW0 HX0 ⊢
    clear hv0
    refine wpAnyH_take (i := 0) (v := ?_) rfl (by kernel_rfl) (by kernel_rfl) (by kernel_rfl) (fun _ _ _ h => h) (Or.inl ⟨by rfl, ?_⟩) hHeld ?_
    rotate_left
    ·intro wq hSw
     go_simp
     try with_reducible rfl
    try simp only [Act.put, List.getElem_toArray, List.getElem_cons_succ, List.getElem_cons_zero, List.setIfInBounds_toArray, List.set_cons_zero, List.set_cons_succ]
    refine wpAnyH_take (i := 1) (v := ?_) rfl (by kernel_rfl) (by kernel_rfl) (by kernel_rfl) (fun _ _ _ h => h) (Or.inl ⟨by rfl, ?_⟩) hHeld ?_
    rotate_left
    ·intro wq hSw
     go_simp
     try with_reducible rfl
    try simp only [Act.put, List.getElem_toArray, List.getElem_cons_succ, List.getElem_cons_zero, List.setIfInBounds_toArray, List.set_cons_zero, List.set_cons_succ]
    refine wpAnyH_take (i := 2) (v := ?_) rfl (by kernel_rfl) (by kernel_rfl) (by kernel_rfl) (fun _ _ _ h => h) (Or.inl ⟨by rfl, ?_⟩) hHeld ?_
    rotate_left
    ·intro wq hSw
     go_simp
     try with_reducible rfl
    try simp only [Act.put, List.getElem_toArray, List.getElem_cons_succ, List.getElem_cons_zero, List.setIfInBounds_toArray, List.set_cons_zero, List.set_cons_succ]
    refine wpAnyH_take (i := 3) (v := ?_) rfl (by kernel_rfl) (by kernel_rfl) (by kernel_rfl) (fun _ _ _ h => h) (Or.inl ⟨by rfl, ?_⟩) hHeld ?_
    rotate_left
    ·intro wq hSw
     go_simp
     try with_reducible rfl
    try simp only [Act.put, List.getElem_toArray, List.getElem_cons_succ, List.getElem_cons_zero, List.setIfInBounds_toArray, List.set_cons_zero, List.set_cons_succ]
    refine wpAnyH_take (i := 4) (v := ?_) rfl (by kernel_rfl) (by kernel_rfl) (by kernel_rfl) (fun _ _ _ h => h) (Or.inl ⟨by rfl, ?_⟩) hHeld ?_
    rotate_left
    ·intro wq hSw
     go_simp
     try with_reducible rfl
    try simp only [Act.put, List.getElem_toArray, List.getElem_cons_succ, List.getElem_cons_zero, List.setIfInBounds_toArray, List.set_cons_zero, List.set_cons_succ]
    refine wpAnyH_take (i := 5) (v := ?_) rfl (by kernel_rfl) (by kernel_rfl) (by kernel_rfl) (fun _ _ _ h => h) (Or.inl ⟨by rfl, ?_⟩) hHeld ?_
    rotate_left
    ·intro wq hSw
     go_simp
     try with_reducible rfl
    try simp only [Act.put, List.getElem_toArray, List.getElem_cons_succ, List.getElem_cons_zero, List.setIfInBounds_toArray, List.set_cons_zero, List.set_cons_succ]
    refine wpAnyH_take (i := 7) (v := ?_) rfl (by kernel_rfl) (by kernel_rfl) (by kernel_rfl) (fun _ _ _ h => h) (Or.inl ⟨by rfl, ?_⟩) hHeld ?_
    rotate_left
    ·intro wq hSw
     go_simp
     try with_reducible rfl
    try simp only [Act.put, List.getElem_toArray, List.getElem_cons_succ, List.getElem_cons_zero, List.setIfInBounds_toArray, List.set_cons_zero, List.set_cons_succ]
    refine wpAnyH_take (i := 8) (v := ?_) rfl (by kernel_rfl) (by kernel_rfl) (by kernel_rfl) (fun _ _ _ h => h) (Or.inl ⟨by rfl, ?_⟩) hHeld ?_
    rotate_left
    ·intro wq hSw
     go_simp
     try with_reducible rfl
    try simp only [Act.put, List.getElem_toArray, List.getElem_cons_succ, List.getElem_cons_zero, List.setIfInBounds_toArray, List.set_cons_zero, List.set_cons_succ]
    refine wpAnyH_take (i := 9) (v := ?_) rfl (by kernel_rfl) (by kernel_rfl) (by kernel_rfl) (fun _ _ _ h => h) (Or.inl ⟨by rfl, ?_⟩) hHeld ?_
    rotate_left
    ·intro wq hSw
     have xc := HD1.out _ hSw.2
     have xl := hSw.2.lt
     go_simp
     try with_reducible rfl
    try simp only [Act.put, List.getElem_toArray, List.getElem_cons_succ, List.getElem_cons_zero, List.setIfInBounds_toArray, List.set_cons_zero, List.set_cons_succ]
    refine wpAnyH_take (i := 10) (v := ?_) rfl (by kernel_rfl) (by kernel_rfl) (by kernel_rfl) (fun _ _ _ h => h) (Or.inl ⟨by rfl, ?_⟩) hHeld ?_
    rotate_left
    ·intro wq hSw
     go_simp
     try with_reducible rfl
    try simp only [Act.put, List.getElem_toArray, List.getElem_cons_succ, List.getElem_cons_zero, List.setIfInBounds_toArray, List.set_cons_zero, List.set_cons_succ]
    refine wpAnyH_ready (rs := [6, 11]) (by kernel_rfl) (by simp) ?_
    refine AllReadyH.cons rfl (fun K hK => ?_) (AllReadyH.cons rfl (fun K hK => ?_) AllReadyH.nil)
    ·skip
     have zc := (HW0.out.R).cell
     have zl := (HW0.out.R).lt
     go_simp
     refine hK.out _ _ hHeld (fun hHeld2 => ?_)
     clear hK K hHeld2 zc zl
     try simp only [Act.put, List.getElem_toArray, List.getElem_cons_succ, List.getElem_cons_zero, List.setIfInBounds_toArray, List.set_cons_zero, List.set_cons_succ]
     refine wpAnyH_ready (rs := [11]) (by kernel_rfl) (by simp) ?_
     refine AllReadyH.cons rfl (fun K hK => ?_) AllReadyH.nil
     have hS8 := And.intro (hHeld.1.alloc HW0.out.h1 (.cells #[.string s1, .slice none 0 0] 75)) (hHeld.2.alloc (.cells #[.string s1, .slice none 0 0] 75))
     go_simp
     refine hK.out _ _ hS8 (fun hHeld2 => ?_)
     clear hK K hHeld hHeld2
     have hHeld := hS8
     clear hS8
     try simp only [Act.put, List.getElem_toArray, List.getElem_cons_succ, List.getElem_cons_zero, List.setIfInBounds_toArray, List.set_cons_zero, List.set_cons_succ]
     refine wpAnyH_ready (rs := [12]) (by kernel_rfl) (by simp) ?_
     refine AllReadyH.cons rfl (fun K hK => ?_) AllReadyH.nil
     have hM1 := HW0.out.M.step ((Below.refl _ _).alloc (Nat.le_refl _) (.cells #[.string s1, .slice none 0 0] 75))
     have hzv := HW0.out.h1
     refine step_append_lies _ (by rfl) _ _ _ (by rfl) base 75 iR _ 2 40 Tryz.underlying23 hiR he0 he1 he2 rfl (by omega) ZV zs.length _ (by rfl) hM1.hZ ⟨v0.heap.size, 0, none⟩ 1 1 [.string s1, .slice none 0 0] (by rfl) (by rfl) (World.news_of_block (cs := #[.string s1, .slice none 0 0]) (t := 75) (fr := (0, 0)) (heap_alloc_new v0 _)) (by simp [Value.oneCell']) (by omega) (by unfold maxLen; omega) (by omega) (by simp; omega) (v0.heap.size + 1) (by simp) ?_; intro gg cap2 w6 hown1 hgrow hat hlt6
     obtain ⟨⟨zc, zf, zl⟩, hb6, hx6, hFin⟩ := Z_fin (nm := s1) HW0.out hown1 hgrow
     have hX6 := (hHeld.2).grown hgrow ((hHeld.2).own_ne hM1.hZ (by decide))
     refine hK.out _ _ ⟨hb6, hX6⟩ (fun hHeld2 => ?_)
     clear hK K hHeld hHeld2
     try simp only [Act.put, List.getElem_toArray, List.getElem_cons_succ, List.getElem_cons_zero, List.setIfInBounds_toArray, List.set_cons_zero, List.set_cons_succ]
     have hHeld := And.intro hb6 hX6
     refine wpAnyH_take (i := 13) (v := ?_) rfl (by kernel_rfl) (by kernel_rfl) (by kernel_rfl) (fun _ _ _ h => h) (Or.inl ⟨by rfl, ?_⟩) hHeld ?_
     rotate_left
     ·intro wq hSw
      go_simp
      try with_reducible rfl
     try simp only [Act.put, List.getElem_toArray, List.getElem_cons_succ, List.getElem_cons_zero, List.setIfInBounds_toArray, List.set_cons_zero, List.set_cons_succ]
     refine wpAnyH_take (i := 14) (v := ?_) rfl (by kernel_rfl) (by kernel_rfl) (by kernel_rfl) (fun _ _ _ h => h) (Or.inl ⟨by rfl, ?_⟩) hHeld ?_
     rotate_left
     ·intro wq hSw
      go_simp
      try with_reducible rfl
     try simp only [Act.put, List.getElem_toArray, List.getElem_cons_succ, List.getElem_cons_zero, List.setIfInBounds_toArray, List.set_cons_zero, List.set_cons_succ]
     refine wpAnyH_take (i := 15) (v := ?_) rfl (by kernel_rfl) (by kernel_rfl) (by kernel_rfl) (fun _ _ _ h => h) (Or.inl ⟨by rfl, ?_⟩) hHeld ?_
     rotate_left
     ·intro wq hSw
      go_simp
      try with_reducible rfl
     try simp only [Act.put, List.getElem_toArray, List.getElem_cons_succ, List.getElem_cons_zero, List.setIfInBounds_toArray, List.set_cons_zero, List.set_cons_succ]
     refine wpAnyH_ready (rs := [16]) (by kernel_rfl) (by simp) ?_
     refine AllReadyH.cons rfl (fun K hK => ?_) AllReadyH.nil
     have hS8 := And.intro (hFin.L) (hX6.far (a := ⟨rd, 1, none⟩) (HNX.out) (.slice (some ⟨gg, 0, none⟩) (zs.length + 1) cap2))
     go_simp
     refine hK.out _ _ hS8 (fun hHeld2 => ?_)
     clear hK K hHeld hHeld2
     have hHeld := hS8
     clear hS8
     try simp only [Act.put, List.getElem_toArray, List.getElem_cons_succ, List.getElem_cons_zero, List.setIfInBounds_toArray, List.set_cons_zero, List.set_cons_succ]
     obtain ⟨v8, hv8⟩ : ∃ V, w6.setCell ⟨rd, 1, none⟩ (.slice (some ⟨gg, 0, none⟩) (zs.length + 1) cap2) = V := ⟨_, rfl⟩
     rw [hv8] at hHeld hFin ⊢
     clear hv8 zc zf zl hb6 hx6 hX6 hown1 hgrow hat hlt6 hM1
     refine wpAnyH_take (i := 17) (v := ?_) rfl (by kernel_rfl) (by kernel_rfl) (by kernel_rfl) (fun _ _ _ h => h) (Or.inl ⟨by rfl, ?_⟩) hHeld ?_
     rotate_left
     ·intro wq hSw
      go_simp
      try with_reducible rfl
     try simp only [Act.put, List.getElem_toArray, List.getElem_cons_succ, List.getElem_cons_zero, List.setIfInBounds_toArray, List.set_cons_zero, List.set_cons_succ]
     refine wpAnyH_take (i := 18) (v := ?_) rfl (by kernel_rfl) (by kernel_rfl) (by kernel_rfl) (fun _ _ _ h => h) (Or.inl ⟨by rfl, ?_⟩) hHeld ?_
     rotate_left
     ·intro wq hSw
      go_simp
      try with_reducible rfl
     try simp only [Act.put, List.getElem_toArray, List.getElem_cons_succ, List.getElem_cons_zero, List.setIfInBounds_toArray, List.set_cons_zero, List.set_cons_succ]
     refine wpAnyH_ready (rs := [19]) (by kernel_rfl) (by simp) ?_
     refine AllReadyH.cons rfl (fun K hK => ?_) AllReadyH.nil
     have q1 := hFin.R.cell
     have q2 := hFin.R.frz
     have q3 := hFin.R.lt
     have hS8 := And.intro (hFin.stg 2).L (hHeld.2.far (a := ⟨rd, 3, none⟩) (HNX.out) (.int .i64 2))
     go_simp
     refine hK.out _ _ hS8 (fun hHeld2 => ?_)
     clear hK K hHeld hHeld2 hS8 q1 q2 q3
     try simp only [Act.put, List.getElem_toArray, List.getElem_cons_succ, List.getElem_cons_zero, List.setIfInBounds_toArray, List.set_cons_zero, List.set_cons_succ]
     refine wpAnyH_done (by kernel_rfl) ?_ _
     refine NoPanic.normal ?_
     have HFin := Lib.hid (hFin.stg 2)
     clear hFin HW0 HW HX0
     obtain ⟨V7, hV7⟩ : ∃ V, v8.setCell ⟨rd, 3, none⟩ (.int .i64 2) = V := ⟨_, rfl⟩
     rw [hV7] at HFin ⊢
     clear hV7
     have HYes := Lib.hid (HYs.out _ _ HFin.out)
     go_wp2_with fail
     go_ret
     exact HYes.out
    have hS8 := And.intro (hHeld.1.alloc HW0.out.h1 (.cells #[.string s1, .slice none 0 0] 75)) (hHeld.2.alloc (.cells #[.string s1, .slice none 0 0] 75))
    go_simp
    refine hK.out _ _ hS8 (fun hHeld2 => ?_)
    clear hK K hHeld hHeld2
    have hHeld := hS8
    clear hS8
    try simp only [Act.put, List.getElem_toArray, List.getElem_cons_succ, List.getElem_cons_zero, List.setIfInBounds_toArray, List.set_cons_zero, List.set_cons_succ]
    refine wpAnyH_ready (rs := [6]) (by kernel_rfl) (by simp) ?_
    refine AllReadyH.cons rfl (fun K hK => ?_) AllReadyH.nil
    have zc := (HW0.out.R.alloc (.cells #[.string s1, .slice none 0 0] 75)).cell
    have zl := (HW0.out.R.alloc (.cells #[.string s1, .slice none 0 0] 75)).lt
    go_simp
    refine hK.out _ _ hHeld (fun hHeld2 => ?_)
    clear hK K hHeld2 zc zl
    try simp only [Act.put, List.getElem_toArray, List.getElem_cons_succ, List.getElem_cons_zero, List.setIfInBounds_toArray, List.set_cons_zero, List.set_cons_succ]
    refine wpAnyH_ready (rs := [12]) (by kernel_rfl) (by simp) ?_
    refine AllReadyH.cons rfl (fun K hK => ?_) AllReadyH.nil
    have hM1 := HW0.out.M.step ((Below.refl _ _).alloc (Nat.le_refl _) (.cells #[.string s1, .slice none 0 0] 75))
    have hzv := HW0.out.h1
    refine step_append_lies _ (by rfl) _ _ _ (by rfl) base 75 iR _ 2 40 Tryz.underlying23 hiR he0 he1 he2 rfl (by omega) ZV zs.length _ (by rfl) hM1.hZ ⟨v0.heap.size, 0, none⟩ 1 1 [.string s1, .slice none 0 0] (by rfl) (by rfl) (World.news_of_block (cs := #[.string s1, .slice none 0 0]) (t := 75) (fr := (0, 0)) (heap_alloc_new v0 _)) (by simp [Value.oneCell']) (by omega) (by unfold maxLen; omega) (by omega) (by simp; omega) (v0.heap.size + 1) (by simp) ?_; intro gg cap2 w6 hown1 hgrow hat hlt6
    obtain ⟨⟨zc, zf, zl⟩, hb6, hx6, hFin⟩ := Z_fin (nm := s1) HW0.out hown1 hgrow
    have hX6 := (hHeld.2).grown hgrow ((hHeld.2).own_ne hM1.hZ (by decide))
    refine hK.out _ _ ⟨hb6, hX6⟩ (fun hHeld2 => ?_)
    clear hK K hHeld hHeld2
    try simp only [Act.put, List.getElem_toArray, List.getElem_cons_succ, List.getElem_cons_zero, List.setIfInBounds_toArray, List.set_cons_zero, List.set_cons_succ]
    have hHeld := And.intro hb6 hX6
    refine wpAnyH_take (i := 13) (v := ?_) rfl (by kernel_rfl) (by kernel_rfl) (by kernel_rfl) (fun _ _ _ h => h) (Or.inl ⟨by rfl, ?_⟩) hHeld ?_
    rotate_left
    ·intro wq hSw
     go_simp
     try with_reducible rfl
    try simp only [Act.put, List.getElem_toArray, List.getElem_cons_succ, List.getElem_cons_zero, List.setIfInBounds_toArray, List.set_cons_zero, List.set_cons_succ]
    refine wpAnyH_take (i := 14) (v := ?_) rfl (by kernel_rfl) (by kernel_rfl) (by kernel_rfl) (fun _ _ _ h => h) (Or.inl ⟨by rfl, ?_⟩) hHeld ?_
    rotate_left
    ·intro wq hSw
     go_simp
     try with_reducible rfl
    try simp only [Act.put, List.getElem_toArray, List.getElem_cons_succ, List.getElem_cons_zero, List.setIfInBounds_toArray, List.set_cons_zero, List.set_cons_succ]
    refine wpAnyH_take (i := 15) (v := ?_) rfl (by kernel_rfl) (by kernel_rfl) (by kernel_rfl) (fun _ _ _ h => h) (Or.inl ⟨by rfl, ?_⟩) hHeld ?_
    rotate_left
    ·intro wq hSw
     go_simp
     try with_reducible rfl
    try simp only [Act.put, List.getElem_toArray, List.getElem_cons_succ, List.getElem_cons_zero, List.setIfInBounds_toArray, List.set_cons_zero, List.set_cons_succ]
    refine wpAnyH_ready (rs := [16]) (by kernel_rfl) (by simp) ?_
    refine AllReadyH.cons rfl (fun K hK => ?_) AllReadyH.nil
    have hS8 := And.intro (hFin.L) (hX6.far (a := ⟨rd, 1, none⟩) (HNX.out) (.slice (some ⟨gg, 0, none⟩) (zs.length + 1) cap2))
    go_simp
    refine hK.out _ _ hS8 (fun hHeld2 => ?_)
    clear hK K hHeld hHeld2
    have hHeld := hS8
    clear hS8
    try simp only [Act.put, List.getElem_toArray, List.getElem_cons_succ, List.getElem_cons_zero, List.setIfInBounds_toArray, List.set_cons_zero, List.set_cons_succ]
    obtain ⟨v8, hv8⟩ : ∃ V, w6.setCell ⟨rd, 1, none⟩ (.slice (some ⟨gg, 0, none⟩) (zs.length + 1) cap2) = V := ⟨_, rfl⟩
    rw [hv8] at hHeld hFin ⊢
    clear hv8 zc zf zl hb6 hx6 hX6 hown1 hgrow hat hlt6 hM1
    refine wpAnyH_take (i := 17) (v := ?_) rfl (by kernel_rfl) (by kernel_rfl) (by kernel_rfl) (fun _ _ _ h => h) (Or.inl ⟨by rfl, ?_⟩) hHeld ?_
    rotate_left
    ·intro wq hSw
     go_simp
     try with_reducible rfl
    try simp only [Act.put, List.getElem_toArray, List.getElem_cons_succ, List.getElem_cons_zero, List.setIfInBounds_toArray, List.set_cons_zero, List.set_cons_succ]
    refine wpAnyH_take (i := 18) (v := ?_) rfl (by kernel_rfl) (by kernel_rfl) (by kernel_rfl) (fun _ _ _ h => h) (Or.inl ⟨by rfl, ?_⟩) hHeld ?_
    rotate_left
    ·intro wq hSw
     go_simp
     try with_reducible rfl
    try simp only [Act.put, List.getElem_toArray, List.getElem_cons_succ, List.getElem_cons_zero, List.setIfInBounds_toArray, List.set_cons_zero, List.set_cons_succ]
    refine wpAnyH_ready (rs := [19]) (by kernel_rfl) (by simp) ?_
    refine AllReadyH.cons rfl (fun K hK => ?_) AllReadyH.nil
    have q1 := hFin.R.cell
    have q2 := hFin.R.frz
    have q3 := hFin.R.lt
    have hS8 := And.intro (hFin.stg 2).L (hHeld.2.far (a := ⟨rd, 3, none⟩) (HNX.out) (.int .i64 2))
    go_simp
    refine hK.out _ _ hS8 (fun hHeld2 => ?_)
    clear hK K hHeld hHeld2 hS8 q1 q2 q3
    try simp only [Act.put, List.getElem_toArray, List.getElem_cons_succ, List.getElem_cons_zero, List.setIfInBounds_toArray, List.set_cons_zero, List.set_cons_succ]
    refine wpAnyH_done (by kernel_rfl) ?_ _
    refine NoPanic.normal ?_
    have HFin := Lib.hid (hFin.stg 2)
    clear hFin HW0 HW HX0
    obtain ⟨V7, hV7⟩ : ∃ V, v8.setCell ⟨rd, 3, none⟩ (.int .i64 2) = V := ⟨_, rfl⟩
    rw [hV7] at HFin ⊢
    clear hV7
    have HYes := Lib.hid (HYs.out _ _ HFin.out)
    go_wp2_with fail
    go_ret
    exact HYes.out
   ·have q2' : ((n : Int) == 2) = false := by rw [beq_eq_false_iff_ne]; omega
    have HQ := Lib.hid (HNo.out (fun h => q2 h.2))
    clear q2 HNo
    go_wp2_with fail
    go_ret
    exact HQ.out
  ·have HQ := Lib.hid (HNo.out (fun h => q1 h.1))
   clear HNo
   go_wp2_with fail
   go_ret
   exact HQ.out
 by_cases c3 : w0 = lINK
 ·have t1 : (w0.toList == [114, 117, 108, 101]) = false := by rw [c3, bw_list.2.2.2]; rfl
  have t2 : (w0.toList == [122, 111, 110, 101]) = false := by rw [c3, bw_list.2.2.2]; rfl
  have t3 : (w0.toList == [108, 105, 110, 107]) = true := by rw [c3, bw_list.2.2.2]; rfl
  have HC1 := Lib.hid (show (wordB 32 s).getD 0 eMT = lINK by rw [HW0.out, c3])
  clear c1 c2 c3 c4
  have HNo := Lib.hid (fun (h : ¬ (sg ≠ 2 ∧ n = 3)) => line_from HB.out (line_no (s := s) (Below.refl base W1) (line_bad (F := F) (fun q => words_ne.2.1 (q.1.symm.trans HC1.out)) (fun q => words_ne.2.2.2.1 (q.1.symm.trans HC1.out)) (fun q => h ⟨fun e => (by rw [← HSg.out] at e; have e2 := stg_two.1 e; rw [q.2.1] at e2; cases e2), by rw [← HN2.out]; exact q.2.2⟩) (fun q => words_ne.2.2.2.2.2 (HC1.out.symm.trans q)))))
  by_cases q1 : sg = 2
  ·have HQ := Lib.hid (HNo.out (fun h => h.1 q1))
   clear HNo
   subst q1
   go_wp2_with fail
   go_ret
   exact HQ.out
  ·have q1' : (sg == 2) = false := by rw [beq_eq_false_iff_ne]; exact q1
   by_cases q2 : n = 3
   ·have hn1 : (1 : Int) < (n : Int) := by omega
    have hn2 : (2 : Int) < (n : Int) := by omega
    obtain ⟨s1, hs1⟩ : ∃ x, ws.getD 1 eMT = x := ⟨_, rfl⟩
    have HD1 := Lib.hid (fun (V : World) (h : Blk V Wb 9 (ws.map Value.string).toArray) => (by have q := wd_at h (i := 1) (by rw [HN.out]; omega); rw [hs1] at q; exact q : V.cell? ⟨Wb, 1, none⟩ = some (.string s1)))
    have HS1 := Lib.hid (show (wordB 32 s).getD 1 eMT = s1 by rw [← HWS.out]; exact hs1)
    clear hs1
    obtain ⟨s2, hs2⟩ : ∃ x, ws.getD 2 eMT = x := ⟨_, rfl⟩
    have HD2 := Lib.hid (fun (V : World) (h : Blk V Wb 9 (ws.map Value.string).toArray) => (by have q := wd_at h (i := 2) (by rw [HN.out]; omega); rw [hs2] at q; exact q : V.cell? ⟨Wb, 2, none⟩ = some (.string s2)))
    have HS2 := Lib.hid (show (wordB 32 s).getD 2 eMT = s2 by rw [← HWS.out]; exact hs2)
    clear hs2
    have HYs := Lib.hid (fun (V : World) (LV' : Value) (h : BpW W1 V base rd RV ZV LV' 3 st.rs zs (st.ls ++ [(s1, s2)])) => line_from HB.out (line_yes (F := F) (st := st) (s := s) (st' := ⟨st.rs, st.zs, st.ls ++ [((wordB 32 s).getD 1 eMT, (wordB 32 s).getD 2 eMT)], st.op⟩) (Or.inr (Or.inr (Or.inl ⟨HC1.out, ⟨op_no (by rw [HSg.out]; exact q1), by rw [HN2.out]; exact q2⟩, rfl⟩))) HZ.out (by rw [stg_link (op_no (by rw [HSg.out]; exact q1)), HS1.out, HS2.out]; exact h)))
    have q2' : ((n : Int) == 3) = true := by rw [beq_iff_eq]; omega
    have q3 : (sg != 2) = true := by rw [bne_iff_ne]; exact q1
    obtain ⟨iR, hiR, he0, he1, he2⟩ := info_parts info_LkS
    have HNX := Lib.hid (HX.out.ne HW.out.R (by decide))
    have hzl := HL.out
    clear q2 HNo
    go_upto_region 12 with fail
    all_goals (try (exfalso; simp_all; done))
    clear rc rl c0 xl
    refine wp_region_noPanic ?_
    refine wp_region_held_drew (S := fun W' : World => Below base W1 W' ∧ Blk W' Wb 9 (ws.map Value.string).toArray) (by kernel_rfl) ⟨HW.out.L.drew, HX.out.drew⟩ (fun hHeld0 => ?_)
    have hHeld := hHeld0
    clear hHeld0
    have HW0 := Lib.hid (HW.out.step (Below.refl _ _).drew)
    have HX0 := Lib.hid HX.out.drew
    obtain ⟨v0, hv0⟩ : ∃ x, W1.drew = x := ⟨_, rfl⟩
    rw [hv0] at hHeld HW0 HX0 ⊢
    clear hv0
    refine wpAnyH_take (i := 0) (v := ?_) rfl (by kernel_rfl) (by kernel_rfl) (by kernel_rfl) (fun _ _ _ h => h) (Or.inl ⟨by rfl, ?_⟩) hHeld ?_
    rotate_left
    ·intro wq hSw
     go_simp
     try with_reducible rfl
    try simp only [Act.put, List.getElem_toArray, List.getElem_cons_succ, List.getElem_cons_zero, List.setIfInBounds_toArray, List.set_cons_zero, List.set_cons_succ]
    refine wpAnyH_take (i := 1) (v := ?_) rfl (by kernel_rfl) (by kernel_rfl) (by kernel_rfl) (fun _ _ _ h => h) (Or.inl ⟨by rfl, ?_⟩) hHeld ?_
    rotate_left
    ·intro wq hSw
     go_simp
     try with_reducible rfl
    try simp only [Act.put, List.getElem_toArray, List.getElem_cons_succ, List.getElem_cons_zero, List.setIfInBounds_toArray, List.set_cons_zero, List.set_cons_succ]
    refine wpAnyH_take (i := 2) (v := ?_) rfl (by kernel_rfl) (by kernel_rfl) (by kernel_rfl) (fun _ _ _ h => h) (Or.inl ⟨by rfl, ?_⟩) hHeld ?_
    rotate_left
    ·intro wq hSw
     go_simp
     try with_reducible rfl
    try simp only [Act.put, List.getElem_toArray, List.getElem_cons_succ, List.getElem_cons_zero, List.setIfInBounds_toArray, List.set_cons_zero, List.set_cons_succ]
    refine wpAnyH_take (i := 3) (v := ?_) rfl (by kernel_rfl) (by kernel_rfl) (by kernel_rfl) (fun _ _ _ h => h) (Or.inl ⟨by rfl, ?_⟩) hHeld ?_
    rotate_left
    ·intro wq hSw
     go_simp
     try with_reducible rfl
    try simp only [Act.put, List.getElem_toArray, List.getElem_cons_succ, List.getElem_cons_zero, List.setIfInBounds_toArray, List.set_cons_zero, List.set_cons_succ]
    refine wpAnyH_take (i := 4) (v := ?_) rfl (by kernel_rfl) (by kernel_rfl) (by kernel_rfl) (fun _ _ _ h => h) (Or.inl ⟨by rfl, ?_⟩) hHeld ?_
    rotate_left
    ·intro wq hSw
     go_simp
     try with_reducible rfl
    try simp only [Act.put, List.getElem_toArray, List.getElem_cons_succ, List.getElem_cons_zero, List.setIfInBounds_toArray, List.set_cons_zero, List.set_cons_succ]
    refine wpAnyH_take (i := 5) (v := ?_) rfl (by kernel_rfl) (by kernel_rfl) (by kernel_rfl) (fun _ _ _ h => h) (Or.inl ⟨by rfl, ?_⟩) hHeld ?_
    rotate_left
    ·intro wq hSw
     go_simp
     try with_reducible rfl
    try simp only [Act.put, List.getElem_toArray, List.getElem_cons_succ, List.getElem_cons_zero, List.setIfInBounds_toArray, List.set_cons_zero, List.set_cons_succ]
    refine wpAnyH_take (i := 7) (v := ?_) rfl (by kernel_rfl) (by kernel_rfl) (by kernel_rfl) (fun _ _ _ h => h) (Or.inl ⟨by rfl, ?_⟩) hHeld ?_
    rotate_left
    ·intro wq hSw
     go_simp
     try with_reducible rfl
    try simp only [Act.put, List.getElem_toArray, List.getElem_cons_succ, List.getElem_cons_zero, List.setIfInBounds_toArray, List.set_cons_zero, List.set_cons_succ]
    refine wpAnyH_take (i := 8) (v := ?_) rfl (by kernel_rfl) (by kernel_rfl) (by kernel_rfl) (fun _ _ _ h => h) (Or.inl ⟨by rfl, ?_⟩) hHeld ?_
    rotate_left
    ·intro wq hSw
     go_simp
     try with_reducible rfl
    try simp only [Act.put, List.getElem_toArray, List.getElem_cons_succ, List.getElem_cons_zero, List.setIfInBounds_toArray, List.set_cons_zero, List.set_cons_succ]
    refine wpAnyH_take (i := 9) (v := ?_) rfl (by kernel_rfl) (by kernel_rfl) (by kernel_rfl) (fun _ _ _ h => h) (Or.inl ⟨by rfl, ?_⟩) hHeld ?_
    rotate_left
    ·intro wq hSw
     have xc := HD1.out _ hSw.2
     have xl := hSw.2.lt
     go_simp
     try with_reducible rfl
    try simp only [Act.put, List.getElem_toArray, List.getElem_cons_succ, List.getElem_cons_zero, List.setIfInBounds_toArray, List.set_cons_zero, List.set_cons_succ]
    refine wpAnyH_take (i := 10) (v := ?_) rfl (by kernel_rfl) (by kernel_rfl) (by kernel_rfl) (fun _ _ _ h => h) (Or.inl ⟨by rfl, ?_⟩) hHeld ?_
    rotate_left
    ·intro wq hSw
     go_simp
     try with_reducible rfl
    try simp only [Act.put, List.getElem_toArray, List.getElem_cons_succ, List.getElem_cons_zero, List.setIfInBounds_toArray, List.set_cons_zero, List.set_cons_succ]
    refine wpAnyH_take (i := 11) (v := ?_) rfl (by kernel_rfl) (by kernel_rfl) (by kernel_rfl) (fun _ _ _ h => h) (Or.inl ⟨by rfl, ?_⟩) hHeld ?_
    rotate_left
    ·intro wq hSw
     go_simp
     try with_reducible rfl
    try simp only [Act.put, List.getElem_toArray, List.getElem_cons_succ, List.getElem_cons_zero, List.setIfInBounds_toArray, List.set_cons_zero, List.set_cons_succ]
    refine wpAnyH_take (i := 12) (v := ?_) rfl (by kernel_rfl) (by kernel_rfl) (by kernel_rfl) (fun _ _ _ h => h) (Or.inl ⟨by rfl, ?_⟩) hHeld ?_
    rotate_left
    ·intro wq hSw
     have xc := HD2.out _ hSw.2
     have xl := hSw.2.lt
     go_simp
     try with_reducible rfl
    try simp only [Act.put, List.getElem_toArray, List.getElem_cons_succ, List.getElem_cons_zero, List.setIfInBounds_toArray, List.set_cons_zero, List.set_cons_succ]
    refine wpAnyH_take (i := 13) (v := ?_) rfl (by kernel_rfl) (by kernel_rfl) (by kernel_rfl) (fun _ _ _ h => h) (Or.inl ⟨by rfl, ?_⟩) hHeld ?_
    rotate_left
    ·intro wq hSw
     go_simp
     try with_reducible rfl
    try simp only [Act.put, List.getElem_toArray, List.getElem_cons_succ, List.getElem_cons_zero, List.setIfInBounds_toArray, List.set_cons_zero, List.set_cons_succ]
    refine wpAnyH_ready (rs := [6, 14]) (by kernel_rfl) (by simp) ?_
    refine AllReadyH.cons rfl (fun K hK => ?_) (AllReadyH.cons rfl (fun K hK => ?_) AllReadyH.nil)
    ·skip
     have zc := (HW0.out.R).cell
     have zl := (HW0.out.R).lt
     go_simp
     refine hK.out _ _ hHeld (fun hHeld2 => ?_)
     clear hK K hHeld2 zc zl
     try simp only [Act.put, List.getElem_toArray, List.getElem_cons_succ, List.getElem_cons_zero, List.setIfInBounds_toArray, List.set_cons_zero, List.set_cons_succ]
     refine wpAnyH_ready (rs := [14]) (by kernel_rfl) (by simp) ?_
     refine AllReadyH.cons rfl (fun K hK => ?_) AllReadyH.nil
     have hS8 := And.intro (hHeld.1.alloc HW0.out.h1 (.cells #[.string s1, .string s2] 77)) (hHeld.2.alloc (.cells #[.string s1, .string s2] 77))
     go_simp
     refine hK.out _ _ hS8 (fun hHeld2 => ?_)
     clear hK K hHeld hHeld2
     have hHeld := hS8
     clear hS8
     try simp only [Act.put, List.getElem_toArray, List.getElem_cons_succ, List.getElem_cons_zero, List.setIfInBounds_toArray, List.set_cons_zero, List.set_cons_succ]
     refine wpAnyH_ready (rs := [15]) (by kernel_rfl) (by simp) ?_
     refine AllReadyH.cons rfl (fun K hK => ?_) AllReadyH.nil
     have hM1 := HW0.out.M.step ((Below.refl _ _).alloc (Nat.le_refl _) (.cells #[.string s1, .string s2] 77))
     have hzv := HW0.out.h1
     refine step_append_lies _ (by rfl) _ _ _ (by rfl) base 77 iR _ 2 32 Tryz.underlying24 hiR he0 he1 he2 rfl (by omega) LV st.ls.length _ (by rfl) hM1.hL ⟨v0.heap.size, 0, none⟩ 1 1 [.string s1, .string s2] (by rfl) (by rfl) (World.news_of_block (cs := #[.string s1, .string s2]) (t := 77) (fr := (0, 0)) (heap_alloc_new v0 _)) (by simp [Value.oneCell']) (by omega) (by unfold maxLen; omega) (by omega) (by simp; omega) (v0.heap.size + 1) (by simp) ?_; intro gg cap2 w6 hown1 hgrow hat hlt6
     obtain ⟨⟨zc, zf, zl⟩, hb6, hx6, hFin⟩ := L_fin (x := (s1, s2)) HW0.out hown1 hgrow
     have hX6 := (hHeld.2).grown hgrow ((hHeld.2).own_ne hM1.hL (by decide))
     refine hK.out _ _ ⟨hb6, hX6⟩ (fun hHeld2 => ?_)
     clear hK K hHeld hHeld2
     try simp only [Act.put, List.getElem_toArray, List.getElem_cons_succ, List.getElem_cons_zero, List.setIfInBounds_toArray, List.set_cons_zero, List.set_cons_succ]
     have hHeld := And.intro hb6 hX6
     refine wpAnyH_take (i := 16) (v := ?_) rfl (by kernel_rfl) (by kernel_rfl) (by kernel_rfl) (fun _ _ _ h => h) (Or.inl ⟨by rfl, ?_⟩) hHeld ?_
     rotate_left
     ·intro wq hSw
      go_simp
      try with_reducible rfl
     try simp only [Act.put, List.getElem_toArray, List.getElem_cons_succ, List.getElem_cons_zero, List.setIfInBounds_toArray, List.set_cons_zero, List.set_cons_succ]
     refine wpAnyH_take (i := 17) (v := ?_) rfl (by kernel_rfl) (by kernel_rfl) (by kernel_rfl) (fun _ _ _ h => h) (Or.inl ⟨by rfl, ?_⟩) hHeld ?_
     rotate_left
     ·intro wq hSw
      go_simp
      try with_reducible rfl
     try simp only [Act.put, List.getElem_toArray, List.getElem_cons_succ, List.getElem_cons_zero, List.setIfInBounds_toArray, List.set_cons_zero, List.set_cons_succ]
     refine wpAnyH_take (i := 18) (v := ?_) rfl (by kernel_rfl) (by kernel_rfl) (by kernel_rfl) (fun _ _ _ h => h) (Or.inl ⟨by rfl, ?_⟩) hHeld ?_
     rotate_left
     ·intro wq hSw
      go_simp
      try with_reducible rfl
     try simp only [Act.put, List.getElem_toArray, List.getElem_cons_succ, List.getElem_cons_zero, List.setIfInBounds_toArray, List.set_cons_zero, List.set_cons_succ]
     refine wpAnyH_ready (rs := [19]) (by kernel_rfl) (by simp) ?_
     refine AllReadyH.cons rfl (fun K hK => ?_) AllReadyH.nil
     have hS8 := And.intro (hFin.L) (hX6.far (a := ⟨rd, 2, none⟩) (HNX.out) (.slice (some ⟨gg, 0, none⟩) (st.ls.length + 1) cap2))
     go_simp
     refine hK.out _ _ hS8 (fun hHeld2 => ?_)
     clear hK K hHeld hHeld2
     have hHeld := hS8
     clear hS8
     try simp only [Act.put, List.getElem_toArray, List.getElem_cons_succ, List.getElem_cons_zero, List.setIfInBounds_toArray, List.set_cons_zero, List.set_cons_succ]
     obtain ⟨v8, hv8⟩ : ∃ V, w6.setCell ⟨rd, 2, none⟩ (.slice (some ⟨gg, 0, none⟩) (st.ls.length + 1) cap2) = V := ⟨_, rfl⟩
     rw [hv8] at hHeld hFin ⊢
     clear hv8 zc zf zl hb6 hx6 hX6 hown1 hgrow hat hlt6 hM1
     refine wpAnyH_take (i := 20) (v := ?_) rfl (by kernel_rfl) (by kernel_rfl) (by kernel_rfl) (fun _ _ _ h => h) (Or.inl ⟨by rfl, ?_⟩) hHeld ?_
     rotate_left
     ·intro wq hSw
      go_simp
      try with_reducible rfl
     try simp only [Act.put, List.getElem_toArray, List.getElem_cons_succ, List.getElem_cons_zero, List.setIfInBounds_toArray, List.set_cons_zero, List.set_cons_succ]
     refine wpAnyH_take (i := 21) (v := ?_) rfl (by kernel_rfl) (by kernel_rfl) (by kernel_rfl) (fun _ _ _ h => h) (Or.inl ⟨by rfl, ?_⟩) hHeld ?_
     rotate_left
     ·intro wq hSw
      go_simp
      try with_reducible rfl
     try simp only [Act.put, List.getElem_toArray, List.getElem_cons_succ, List.getElem_cons_zero, List.setIfInBounds_toArray, List.set_cons_zero, List.set_cons_succ]
     refine wpAnyH_ready (rs := [22]) (by kernel_rfl) (by simp) ?_
     refine AllReadyH.cons rfl (fun K hK => ?_) AllReadyH.nil
     have q1 := hFin.R.cell
     have q2 := hFin.R.frz
     have q3 := hFin.R.lt
     have hS8 := And.intro (hFin.stg 3).L (hHeld.2.far (a := ⟨rd, 3, none⟩) (HNX.out) (.int .i64 3))
     go_simp
     refine hK.out _ _ hS8 (fun hHeld2 => ?_)
     clear hK K hHeld hHeld2 hS8 q1 q2 q3
     try simp only [Act.put, List.getElem_toArray, List.getElem_cons_succ, List.getElem_cons_zero, List.setIfInBounds_toArray, List.set_cons_zero, List.set_cons_succ]
     refine wpAnyH_done (by kernel_rfl) ?_ _
     refine NoPanic.normal ?_
     have HFin := Lib.hid (hFin.stg 3)
     clear hFin HW0 HW HX0
     obtain ⟨V7, hV7⟩ : ∃ V, v8.setCell ⟨rd, 3, none⟩ (.int .i64 3) = V := ⟨_, rfl⟩
     rw [hV7] at HFin ⊢
     clear hV7
     have HYes := Lib.hid (HYs.out _ _ HFin.out)
     go_wp2_with fail
     go_ret
     exact HYes.out
    have hS8 := And.intro (hHeld.1.alloc HW0.out.h1 (.cells #[.string s1, .string s2] 77)) (hHeld.2.alloc (.cells #[.string s1, .string s2] 77))
    go_simp
    refine hK.out _ _ hS8 (fun hHeld2 => ?_)
    clear hK K hHeld hHeld2
    have hHeld := hS8
    clear hS8
    try simp only [Act.put, List.getElem_toArray, List.getElem_cons_succ, List.getElem_cons_zero, List.setIfInBounds_toArray, List.set_cons_zero, List.set_cons_succ]
    refine wpAnyH_ready (rs := [6]) (by kernel_rfl) (by simp) ?_
    refine AllReadyH.cons rfl (fun K hK => ?_) AllReadyH.nil
    have zc := (HW0.out.R.alloc (.cells #[.string s1, .string s2] 77)).cell
    have zl := (HW0.out.R.alloc (.cells #[.string s1, .string s2] 77)).lt
    go_simp
    refine hK.out _ _ hHeld (fun hHeld2 => ?_)
    clear hK K hHeld2 zc zl
    try simp only [Act.put, List.getElem_toArray, List.getElem_cons_succ, List.getElem_cons_zero, List.setIfInBounds_toArray, List.set_cons_zero, List.set_cons_succ]
    refine wpAnyH_ready (rs := [15]) (by kernel_rfl) (by simp) ?_
    refine AllReadyH.cons rfl (fun K hK => ?_) AllReadyH.nil
    have hM1 := HW0.out.M.step ((Below.refl _ _).alloc (Nat.le_refl _) (.cells #[.string s1, .string s2] 77))
    have hzv := HW0.out.h1
    refine step_append_lies _ (by rfl) _ _ _ (by rfl) base 77 iR _ 2 32 Tryz.underlying24 hiR he0 he1 he2 rfl (by omega) LV st.ls.length _ (by rfl) hM1.hL ⟨v0.heap.size, 0, none⟩ 1 1 [.string s1, .string s2] (by rfl) (by rfl) (World.news_of_block (cs := #[.string s1, .string s2]) (t := 77) (fr := (0, 0)) (heap_alloc_new v0 _)) (by simp [Value.oneCell']) (by omega) (by unfold maxLen; omega) (by omega) (by simp; omega) (v0.heap.size + 1) (by simp) ?_; intro gg cap2 w6 hown1 hgrow hat hlt6
    obtain ⟨⟨zc, zf, zl⟩, hb6, hx6, hFin⟩ := L_fin (x := (s1, s2)) HW0.out hown1 hgrow
    have hX6 := (hHeld.2).grown hgrow ((hHeld.2).own_ne hM1.hL (by decide))
    refine hK.out _ _ ⟨hb6, hX6⟩ (fun hHeld2 => ?_)
    clear hK K hHeld hHeld2
    try simp only [Act.put, List.getElem_toArray, List.getElem_cons_succ, List.getElem_cons_zero, List.setIfInBounds_toArray, List.set_cons_zero, List.set_cons_succ]
    have hHeld := And.intro hb6 hX6
    refine wpAnyH_take (i := 16) (v := ?_) rfl (by kernel_rfl) (by kernel_rfl) (by kernel_rfl) (fun _ _ _ h => h) (Or.inl ⟨by rfl, ?_⟩) hHeld ?_
    rotate_left
    ·intro wq hSw
     go_simp
     try with_reducible rfl
    try simp only [Act.put, List.getElem_toArray, List.getElem_cons_succ, List.getElem_cons_zero, List.setIfInBounds_toArray, List.set_cons_zero, List.set_cons_succ]
    refine wpAnyH_take (i := 17) (v := ?_) rfl (by kernel_rfl) (by kernel_rfl) (by kernel_rfl) (fun _ _ _ h => h) (Or.inl ⟨by rfl, ?_⟩) hHeld ?_
    rotate_left
    ·intro wq hSw
     go_simp
     try with_reducible rfl
    try simp only [Act.put, List.getElem_toArray, List.getElem_cons_succ, List.getElem_cons_zero, List.setIfInBounds_toArray, List.set_cons_zero, List.set_cons_succ]
    refine wpAnyH_take (i := 18) (v := ?_) rfl (by kernel_rfl) (by kernel_rfl) (by kernel_rfl) (fun _ _ _ h => h) (Or.inl ⟨by rfl, ?_⟩) hHeld ?_
    rotate_left
    ·intro wq hSw
     go_simp
     try with_reducible rfl
    try simp only [Act.put, List.getElem_toArray, List.getElem_cons_succ, List.getElem_cons_zero, List.setIfInBounds_toArray, List.set_cons_zero, List.set_cons_succ]
    refine wpAnyH_ready (rs := [19]) (by kernel_rfl) (by simp) ?_
    refine AllReadyH.cons rfl (fun K hK => ?_) AllReadyH.nil
    have hS8 := And.intro (hFin.L) (hX6.far (a := ⟨rd, 2, none⟩) (HNX.out) (.slice (some ⟨gg, 0, none⟩) (st.ls.length + 1) cap2))
    go_simp
    refine hK.out _ _ hS8 (fun hHeld2 => ?_)
    clear hK K hHeld hHeld2
    have hHeld := hS8
    clear hS8
    try simp only [Act.put, List.getElem_toArray, List.getElem_cons_succ, List.getElem_cons_zero, List.setIfInBounds_toArray, List.set_cons_zero, List.set_cons_succ]
    obtain ⟨v8, hv8⟩ : ∃ V, w6.setCell ⟨rd, 2, none⟩ (.slice (some ⟨gg, 0, none⟩) (st.ls.length + 1) cap2) = V := ⟨_, rfl⟩
    rw [hv8] at hHeld hFin ⊢
    clear hv8 zc zf zl hb6 hx6 hX6 hown1 hgrow hat hlt6 hM1
    refine wpAnyH_take (i := 20) (v := ?_) rfl (by kernel_rfl) (by kernel_rfl) (by kernel_rfl) (fun _ _ _ h => h) (Or.inl ⟨by rfl, ?_⟩) hHeld ?_
    rotate_left
    ·intro wq hSw
     go_simp
     try with_reducible rfl
    try simp only [Act.put, List.getElem_toArray, List.getElem_cons_succ, List.getElem_cons_zero, List.setIfInBounds_toArray, List.set_cons_zero, List.set_cons_succ]
    refine wpAnyH_take (i := 21) (v := ?_) rfl (by kernel_rfl) (by kernel_rfl) (by kernel_rfl) (fun _ _ _ h => h) (Or.inl ⟨by rfl, ?_⟩) hHeld ?_
    rotate_left
    ·intro wq hSw
     go_simp
     try with_reducible rfl
    try simp only [Act.put, List.getElem_toArray, List.getElem_cons_succ, List.getElem_cons_zero, List.setIfInBounds_toArray, List.set_cons_zero, List.set_cons_succ]
    refine wpAnyH_ready (rs := [22]) (by kernel_rfl) (by simp) ?_
    refine AllReadyH.cons rfl (fun K hK => ?_) AllReadyH.nil
    have q1 := hFin.R.cell
    have q2 := hFin.R.frz
    have q3 := hFin.R.lt
    have hS8 := And.intro (hFin.stg 3).L (hHeld.2.far (a := ⟨rd, 3, none⟩) (HNX.out) (.int .i64 3))
    go_simp
    refine hK.out _ _ hS8 (fun hHeld2 => ?_)
    clear hK K hHeld hHeld2 hS8 q1 q2 q3
    try simp only [Act.put, List.getElem_toArray, List.getElem_cons_succ, List.getElem_cons_zero, List.setIfInBounds_toArray, List.set_cons_zero, List.set_cons_succ]
    refine wpAnyH_done (by kernel_rfl) ?_ _
    refine NoPanic.normal ?_
    have HFin := Lib.hid (hFin.stg 3)
    clear hFin HW0 HW HX0
    obtain ⟨V7, hV7⟩ : ∃ V, v8.setCell ⟨rd, 3, none⟩ (.int .i64 3) = V := ⟨_, rfl⟩
    rw [hV7] at HFin ⊢
    clear hV7
    have HYes := Lib.hid (HYs.out _ _ HFin.out)
    go_wp2_with fail
    go_ret
    exact HYes.out
   ·have q2' : ((n : Int) == 3) = false := by rw [beq_eq_false_iff_ne]; omega
    have HQ := Lib.hid (HNo.out (fun h => q2 h.2))
    have q3 : (sg != 2) = true := by rw [bne_iff_ne]; exact q1
    clear HNo
    go_wp2_with fail
    all_goals first
     | (go_ret; exact HQ.out)
     | (exfalso; rename_i h9; have h8 := h9.2; rw [beq_iff_eq] at h8; omega)
     | (exfalso; simp_all)
 have t1 : (w0.toList == [114, 117, 108, 101]) = false := by rw [← bw_list.1]; exact str_ne c1
 have t2 : (w0.toList == [122, 111, 110, 101]) = false := by rw [← bw_list.2.1]; exact str_ne c2
 have t3 : (w0.toList == [108, 105, 110, 107]) = false := by rw [← bw_list.2.2.2]; exact str_ne c3
 have HQ := Lib.hid (line_from HB.out (line_no (s := s) (Below.refl base W1) (line_bad (F := F) (st := st) (fun h => c1 (by rw [← HW0.out]; exact h.1)) (fun h => c2 (by rw [← HW0.out]; exact h.1)) (fun h => c3 (by rw [← HW0.out]; exact h.1)) (fun h => c4 (by rw [← HW0.out]; exact h)))))
 clear c1 c2 c3 c4
 go_wp2_with fail
 go_ret
 exact HQ.out
end Go.Proofs.YthppifcggmdmoaaGreatDoor

